/- The document's numbers: an int64 out of a number, or none; the one next to it. -/
import Derived.Test.YtkohpeonnoegpaaDigD
namespace Go.Proofs.Ytkohpeonnoegpaa
open Go.RowKit
set_option linter.unusedVariables false
set_option linter.unusedSimpArgs false

/-- A number in memory that may have zeros ahead, and a sign at 0. -/
def Raw (w : World) (mi : Bool) (A : Option Addr) (n c : Nat) (v : Int) : Prop :=
  ∃ l, DRow w A n l ∧ n ≤ 1000 ∧ n ≤ c ∧ c ≤ maxLen ∧ sval mi l = v
theorem Raw.stp {w w' : World} {mi : Bool} {A : Option Addr} {n c : Nat} {v : Int} (h : Raw w mi A n c v) (hs : Stp [] w w') : Raw w' mi A n c v := by
  obtain ⟨l, h1, h2⟩ := h
  exact ⟨l, h1.stp hs, h2⟩
theorem Num.raw {w : World} {mi : Bool} {A : Option Addr} {n c : Nat} {v : Int} (h : Num w mi A n c v) (hn : n ≤ 1000) : Raw w mi A n c v := by
  obtain ⟨l, h1, h2, h3, h4, h5, h6⟩ := h
  exact ⟨l, h1, hn, h2, h3, h6⟩
theorem dtrim_raw (mi : Bool) (A : Option Addr) (n c : Nat) (v : Int) (w : World) (h : Raw w mi A n c v) :
    Calls Try.prog 64 #[.agg #[.bool mi, .slice A n c]] w (NAns v w) := by
  obtain ⟨l, h1, h2, h3, h4, h5⟩ := h
  exact dtrim_num mi A n c l v w h1 h2 h3 h4 h5
def fits (v : Int) : Prop := -9223372036854775808 ≤ v ∧ v ≤ 9223372036854775807
instance (v : Int) : Decidable (fits v) := by unfold fits; exact inferInstance
theorem drop_le {l : List Int} (h : Dg l) {k : Nat} (hk : k ≤ l.length) : dval (l.drop k) ≤ dval l := by
  have e := dval_split l hk
  have h1 := dval_nonneg (h.take k)
  have h2 := dval_nonneg (h.drop k)
  have hp := p65_pos k
  have : 1 * dval (l.drop k) ≤ p65 k * dval (l.drop k) := Int.mul_le_mul_of_nonneg_right (by omega) h2
  omega

/-- What Int answers: the number, if it fits. -/
def IAns (v : Int) (w : World) (e : Ending) (w' : World) : Prop :=
  ∃ x b, e = .returned (.tuple #[.int .i64 x, .bool b]) ∧ (fits v → x = v ∧ b = true) ∧ (¬ fits v → b = false) ∧ Stp [] w w'
set_option maxHeartbeats 2000000 in
theorem dInt_any (mi : Bool) (A : Option Addr) (n c : Nat) (v : Int) (w : World) (h : Raw w mi A n c v) :
    Calls Try.prog 55 #[.agg #[.bool mi, .slice A n c]] w (IAns v w) := by
  have T := Lib.hid (fun (w' : World) (hs : Stp [] w w') => dtrim_raw mi A n c v w' (h.stp hs))
  clear h
  have q1 := Blk.new w 61 #[.bool mi, .slice A n c]
  have S := Lib.hid ((Stp.refl [] w).alloc (.cells #[.bool mi, .slice A n c] 61))
  have Q := Lib.hid q1
  clear q1
  go_enter Try.func55, Try.ntmps55
  go_wp2_with fail
  refine (T.out _ S.out).mono ?_
  rintro e w2 ⟨m2, A2, n2, c2, rfl, d2, s2⟩
  have qb := Q.out.stp s2
  obtain ⟨z0, z1, t0, t1⟩ := big_cells qb
  have sf := set_big w2 w.heap.size (.bool m2) (.slice A2 n2 c2)
  have d3 := d2.far qb sf
  have z3 := Lib.hid ((S.out.trans s2).far sf (.inr (Nat.le_refl _)))
  obtain ⟨r0, r1, f0, f1⟩ := big_cells (big_set qb (.bool m2) (.slice A2 n2 c2))
  clear qb sf d2 s2 T Q S
  generalize hW : (w2.setCell ⟨w.heap.size, 0, none⟩ (.bool m2)).setCell ⟨w.heap.size, 1, none⟩ (.slice A2 n2 c2) = W at *
  obtain ⟨l, h1, h2, h3, h4, h5, h6, h7, h8, h9⟩ := d3.facts
  have hl := h1.2.1
  have D := Lib.hid (And.intro h1 (And.intro h4 (And.intro h6 h7)))
  clear h1 h4 h6 h7 h8 h9 d3
  by_cases h4 : 4 < n2
  · have nf : ¬ fits v := by
      intro hf
      unfold fits at hf
      have : n2 ≤ 4 := by
        rw [← hl]
        refine D.out.2.1.len_le ?_
        rw [p65_4]
        cases m2 with
        | true => have := D.out.2.2.1 rfl; omega
        | false => have := D.out.2.2.2 rfl; omega
      omega
    have NF := Lib.hid nf
    clear nf D
    go_wp2_with fail
    go_ret2
    exact ⟨0, false, rfl, fun h => absurd h NF.out, fun _ => rfl, z3.out⟩
  · have hm : n2 ≤ 4 := by omega
    have hb : 0 ≤ dval l ∧ dval l ≤ 18446744073709551615 := by
      refine ⟨h5, ?_⟩
      have h10 := dval_lt D.out.1.2.2
      have h11 := p65_mono (n := l.length) (m := 4) (by omega)
      rw [p65_4] at h11
      omega
    obtain ⟨V, hV⟩ : ∃ V, dval l = V := ⟨_, rfl⟩
    have HV := Lib.hid hV
    rw [hV] at h5 hb
    obtain ⟨_, hb1⟩ := hb
    clear h2 h3 hV
    go_wp2_with fail
    go_loopw [4, 5] (fun nn i wr => ∃ (k : Nat), k ≤ n2 ∧ i = .int .i64 ((k : Int) - 1) ∧ nn = .int .u64 (dval (l.drop k)) ∧ ∃ j, wr = W.drewN j) (fun _ i _ => (intOf i + 1).toNat)
    case atStart => exact ⟨n2, by omega, by go_num, by rw [List.drop_of_length_le (by omega)]; rfl, 0, rfl⟩
    case round =>
      obtain ⟨k, hk, rfl, rfl, j, rfl⟩ := hrel
      rcases k with _ | k
      · rw [List.drop_zero, HV.out]
        cases m2 with
        | true =>
          obtain ⟨v1, v2⟩ := D.out.2.2.1 rfl
          rw [HV.out] at v1 v2
          have w1 : IntKind.u64.wrap (-V) = 18446744073709551616 - V := by rw [IntKind.wrap_u64]; omega
          clear D HV
          by_cases hf : V ≤ 9223372036854775808
          · have w2 : IntKind.i64.wrap (18446744073709551616 - V) = -V := by rw [IntKind.wrap_i64]; omega
            have hd : decide (V ≤ 9223372036854775808) = true := decide_eq_true hf
            have R := Lib.hid (show fits v ∧ v = -V from ⟨by unfold fits; omega, v1⟩)
            clear v1 v2
            go_wp2_with fail
            go_ret2
            exact ⟨-V, true, rfl, fun _ => ⟨R.out.2.symm, rfl⟩, fun h => absurd R.out.1 h, z3.out.drewN _⟩
          · have hd : decide (V ≤ 9223372036854775808) = false := decide_eq_false hf
            obtain ⟨y, hy⟩ : ∃ y, IntKind.i64.wrap (18446744073709551616 - V) = y := ⟨_, rfl⟩
            have R := Lib.hid (show ¬ fits v from by unfold fits; omega)
            clear v1 v2
            go_wp2_with fail
            go_ret2
            exact ⟨y, false, rfl, fun h => absurd h R.out, fun _ => rfl, z3.out.drewN _⟩
        | false =>
          have v1 := D.out.2.2.2 rfl
          rw [HV.out] at v1
          clear D HV
          by_cases hf : V ≤ 9223372036854775807
          · have w2 : IntKind.i64.wrap V = V := by rw [IntKind.wrap_i64]; omega
            have hd : decide (V ≤ 9223372036854775807) = true := decide_eq_true hf
            have R := Lib.hid (show fits v ∧ v = V from ⟨by unfold fits; omega, v1⟩)
            clear v1
            go_wp2_with fail
            go_ret2
            exact ⟨V, true, rfl, fun _ => ⟨R.out.2.symm, rfl⟩, fun h => absurd R.out.1 h, z3.out.drewN _⟩
          · have hd : decide (V ≤ 9223372036854775807) = false := decide_eq_false hf
            obtain ⟨y, hy⟩ : ∃ y, IntKind.i64.wrap V = y := ⟨_, rfl⟩
            have R := Lib.hid (show ¬ fits v from by unfold fits; omega)
            clear v1
            go_wp2_with fail
            go_ret2
            exact ⟨y, false, rfl, fun h => absurd h R.out, fun _ => rfl, z3.out.drewN _⟩
      · have hkl : k < l.length := by omega
        obtain ⟨b1, o1, rfl, hc1⟩ := D.out.1.cell (k := k) (by omega)
        have dd := dval_drop l k
        have dl := drop_le D.out.1.2.2 (k := k) (by omega)
        rw [HV.out] at dl
        have x0 := D.out.1.2.2.getD k
        have y0 := dval_nonneg (D.out.1.2.2.drop (k + 1))
        generalize dval (l.drop (k + 1)) = Y at *
        obtain ⟨Z, hZ⟩ : ∃ Z, dval (l.drop k) = Z := ⟨_, rfl⟩
        rw [hZ] at dd dl
        have HZ := Lib.hid hZ
        generalize l.getD k 0 = x at *
        obtain ⟨x0, x1⟩ := x0
        have ek : ((k + 1 : Nat) : Int) - 1 = (k : Int) := by omega
        rw [ek]
        have w1 : IntKind.u64.wrap (Y * 65536) = Y * 65536 := by rw [IntKind.wrap_u64]; omega
        have w2 : IntKind.u64.wrap (Y * 65536 + x) = Z := by rw [IntKind.wrap_u64]; omega
        clear hZ
        go_wp2_with (go_quiet (fail))
        go_roundw
        case rel => exact ⟨k, by omega, rfl, by rw [HZ.out, dd], _, rfl⟩
        case measure => simp [intOf]

theorem Num.minus {w : World} {mi : Bool} {A : Option Addr} {n c : Nat} {v : Int} (h : Num w mi A n c v) : mi = decide (v < 0) := by
  obtain ⟨l, h1, h2, h3, h4, h5, h6, h7, h8, h9⟩ := h.facts
  cases mi with
  | true => have := h6 rfl; simp; omega
  | false => have := h7 rfl; simp; omega
end Go.Proofs.Ytkohpeonnoegpaa
