/- The document's numbers: a digit, sums and differences of sizes, which is less, zeros cut off. -/
import Derived.Test.YtkohpeonnoegpaaDigS
import Derived.LoopTactic
import Derived.Deep.RegionHeld3
namespace Go.Proofs.Ytkohpeonnoegpaa
open Go.RowKit
set_option linter.unusedVariables false
set_option linter.unusedSimpArgs false

theorem u32_info : (Try.prog.info? 77).map (fun i => (i.zero, i.size, i.bytes)) = some (some (.int .u32 0), 1, 4) := by kernel_rfl
theorem dig_base {w : World} {base : Nat} {e : TypeId} {size n : Nat} {v : Value} {xs : List Value} (h : w.ownsRow base e size v n xs) {k : Nat} (hk : v.ownBlock = some k) : base ≤ k := by
  rcases h.2 with ⟨rfl, _⟩ | ⟨g, cap, cur, rfl, hb, _⟩
  · simp [Value.ownBlock] at hk
  · simp [Value.ownBlock] at hk
    omega
/-- A row of digits in memory. -/
def DRow (w : World) (A : Option Addr) (n : Nat) (l : List Int) : Prop := RowIn w A n 1 (l.map (Value.int .u32)) [] ∧ l.length = n ∧ Dg l
theorem DRow.stp {w w' : World} {A : Option Addr} {n : Nat} {l : List Int} (h : DRow w A n l) (hs : Stp [] w w') : DRow w' A n l := ⟨h.1.stp hs, h.2⟩
theorem DRow.cell {w : World} {A : Option Addr} {n : Nat} {l : List Int} (h : DRow w A n l) {k : Nat} (hk : k < n) : ∃ b off, A = some ⟨b, off, none⟩ ∧ w.cell? ⟨b, off + k, none⟩ = some (.int .u32 (l.getD k 0)) := by
  obtain ⟨b, off, e, hb, hg, hc⟩ := h.1.2 (by omega)
  have hl : k < l.length := by have := h.2.1; omega
  exact ⟨b, off, e, hc k _ (by rw [List.getElem?_map, List.getElem?_eq_getElem hl, getD_in hl]; rfl)⟩
theorem DRow.nil (w : World) (A : Option Addr) : DRow w A 0 [] := ⟨⟨rfl, fun h => absurd h (by omega)⟩, rfl, Dg.nil⟩
theorem DRow.take {w : World} {A : Option Addr} {n k : Nat} {l : List Int} (h : DRow w A n l) (hk : k ≤ n) : DRow w A k (l.take k) := by
  refine ⟨⟨by have := h.2.1; simp; omega, fun hn => ?_⟩, by have := h.2.1; simp; omega, h.2.2.take k⟩
  obtain ⟨b, off, e, hb, hg, hc⟩ := h.1.2 (by omega)
  refine ⟨b, off, e, hb, hg, fun j u hu => hc j u ?_⟩
  rw [List.map_take, List.getElem?_take] at hu
  split at hu
  · exact hu
  · cases hu
/-- What a function on sizes answers: a row of digits that is as it should be. -/
def DAns (P : List Int → Prop) (w : World) (e : Ending) (w' : World) : Prop :=
  ∃ A n c l, e = .returned (.slice A n c) ∧ DRow w' A n l ∧ n ≤ c ∧ c ≤ maxLen ∧ P l ∧ Stp [] w w'

theorem dat_any (A : Option Addr) (n c : Nat) (l : List Int) (i : Nat) (w : World) (h : DRow w A n l) :
    Calls Try.prog 63 #[.slice A n c, .int .i64 i] w fun e w' => e = .returned (.int .u32 (l.getD i 0)) ∧ w' = w := by
  by_cases hi : i < n
  · obtain ⟨b, off, rfl, hc⟩ := h.cell hi
    clear h
    generalize l.getD i 0 = x at *
    go_enter Try.func63, Try.ntmps63
    go_wp2_with fail
    go_ret
    exact ⟨rfl, rfl⟩
  · rw [getD_out (by have := h.2.1; omega)]
    clear h
    go_enter Try.func63, Try.ntmps63
    go_wp2_with fail
    go_ret
    exact ⟨rfl, rfl⟩

set_option maxHeartbeats 1000000 in
theorem dplus_any (A B : Option Addr) (n m c d : Nat) (a b : List Int) (w : World) (ha : DRow w A n a) (hb : DRow w B m b) (hn : n ≤ 1000) (hm : m ≤ 1000) :
    Calls Try.prog 61 #[.slice A n c, .slice B m d] w (DAns (fun l => dval l = dval a + dval b ∧ l.length ≤ max n m + 1) w) := by
  obtain ⟨i0, hi, hz0, hz1, hz2⟩ := info_parts u32_info
  have P := Lib.hid (And.intro ha hb)
  clear ha hb
  go_enter Try.func61, Try.ntmps61
  go_wp2_with fail
  go_loopw [5, 6, 7] (fun v c i wr => ∃ (k : Nat) (q : Int) (r : List Int), k ≤ max n m + 1 ∧ i = .int .i64 k ∧ c = .int .u32 q ∧ (0 ≤ q ∧ q ≤ 1) ∧ (q = 0 ∨ k ≤ max n m) ∧ r.length = k ∧ Hid (wr.ownsRow w.heap.size 77 1 v k (r.map (Value.int .u32)) ∧ Dg r ∧ dval r + p65 k * (dval (a.drop k) + dval (b.drop k) + q) = dval a + dval b ∧ Stp [] w wr)) (fun _ _ i _ => max n m + 1 - (intOf i).toNat)
  case atStart => exact ⟨0, 0, [], by omega, rfl, rfl, by decide, .inl rfl, rfl, ⟨World.ownsRow_nil _ _ _ _, Dg.nil, by simp [dval, p65_zero], Stp.refl _ _⟩⟩
  case round =>
    obtain ⟨k, q, r, hk, rfl, rfl, ⟨q0, q1⟩, hq, hr, H⟩ := hrel
    have A0 := dat_any A n c a k wr (P.out.1.stp H.out.2.2.2)
    have B0 := dat_any B m d b k wr (P.out.2.stp H.out.2.2.2)
    have hx := P.out.1.2.2.getD k
    have hy := P.out.2.2.2.getD k
    have hxz : ¬ k < n → a.getD k 0 = 0 := fun h => getD_out (by have := P.out.1.2.1; omega)
    have hyz : ¬ k < m → b.getD k 0 = 0 := fun h => getD_out (by have := P.out.2.2.1; omega)
    have PR := Lib.hid (fun (n : Int) (hn : n = a.getD k 0 + b.getD k 0 + q) => plus_round (a := a) (b := b) (c := q) hr hn)
    generalize a.getD k 0 = x at *
    generalize b.getD k 0 = y at *
    obtain ⟨x0, x1⟩ := hx
    obtain ⟨y0, y1⟩ := hy
    by_cases hst : k < n ∨ k < m ∨ 0 < q
    · have hk1 : k ≤ max n m := by omega
      have hq1 : x + y + q = 1 ∧ q = 1 ∨ k < max n m := by omega
      have hc : k < n ∨ ¬ k < n ∧ k < m ∨ ¬ k < n ∧ ¬ k < m ∧ 0 < q := by omega
      have HK := Lib.hid (And.intro hst (And.intro hk1 hq1))
      have hk2 : k ≤ 1001 := by omega
      clear hst hk1 hq1 hxz hyz hk hq
      rcases hc with h1 | ⟨h1, h2⟩ | ⟨h1, h2, h3⟩
      all_goals
        go_wp2_with fail
        refine A0.mono ?_
        rintro e v1 ⟨rfl, rfl⟩
        go_wp2_with fail
        refine B0.mono ?_
        rintro e v2 ⟨rfl, rfl⟩
        go_wp2_with (at_builtin; refine wpList_append_own _ rfl _ _ 59 rfl w.heap.size 77 i0 (.int .u32 0) 1 4 Try.underlying59 hi hz0 hz1 hz2 rfl (by decide) _ _ _ rfl (H.out.1.alloc _) ⟨v2.heap.size, 0, none⟩ 1 1 [.int .u32 ((x + y + q) % 65536)] rfl rfl (by intro j u hj; match j, hj with | 0, hj => (simp at hj; subst hj; simp [Addr.add])) (by intro u hu; simp at hu; subst hu; rfl) (by have := HK.out.2.1; unfold maxLen; omega) (by have := HK.out.2.1; omega) (by have := H.out.2.2.2.size; (try simp); omega) ?_)
        · intro v' w2 hown' hgrow _
          have R := Lib.hid (And.intro (show w2.ownsRow w.heap.size 77 1 v' (k + 1) ((r ++ [(x + y + q) % 65536]).map (Value.int .u32)) by
            rw [List.map_append]
            exact hown') (show Stp [] w w2 from (H.out.2.2.2.alloc _).grown hgrow (fun k hk => .inr (dig_base H.out.1 hk))))
          have R2 := Lib.hid (And.intro H.out.2.1 (H.out.2.2.1.symm.trans (PR.out _ rfl).symm))
          clear hown' hgrow H PR A0 B0
          go_wp2_with fail
          go_roundw
          case rel =>
            have k1 := HK.out.2.1
            have k2 := HK.out.2.2
            exact ⟨k + 1, _, r ++ [(x + y + q) % 65536], by omega, by go_num, rfl, by omega, by omega, by simp; omega, ⟨R.out.1, R2.out.1.snoc (by omega) (by omega), R2.out.2.symm, R.out.2⟩⟩
          case measure => have := HK.out.2.1; simp [intOf]; omega
    · have hc1 : ¬ k < n := fun h => hst (.inl h)
      have hc2 : ¬ k < m := fun h => hst (.inr (.inl h))
      obtain rfl : q = 0 := by omega
      clear A0 B0 hxz hyz PR hst
      have hv := H.out.2.2.1
      rw [dval_end (by have := P.out.1.2.1; omega), dval_end (by have := P.out.2.2.1; omega), Int.add_zero, Int.add_zero, Int.mul_zero, Int.add_zero] at hv
      have HV := Lib.hid hv
      have hown := H.out.1
      obtain ⟨A2, c2, rfl, e1, e2, e3⟩ := own_form (G := []) hown (by simp)
      have T := Lib.hid (And.intro H.out.2.1 (And.intro e1 (And.intro e2 (And.intro e3 H.out.2.2.2))))
      clear hv hown H e1 e2 e3
      go_wp2_with fail
      go_ret
      exact ⟨A2, k, c2, r, rfl, ⟨T.out.2.2.2.1, hr, T.out.1⟩, T.out.2.1, T.out.2.2.1, ⟨HV.out, by omega⟩, T.out.2.2.2.2⟩
end Go.Proofs.Ytkohpeonnoegpaa
