/- smear: what one leap has taken, and all of them. -/
import Derived.Test.YtbjjfjgomkmdhaaSmearB
namespace Go.Proofs.Ytbjjfjgomkmdhaa
open Go.RowKit
set_option linter.unusedVariables false
set_option linter.unusedSimpArgs false

theorem muldiv_day (x : Int) (w : World) (hx : 0 ≤ x ∧ x ≤ 86400000000000) :
    Calls Try.prog 31 #[.int .i64 x, .int .i64 1000000000, .int .i64 86400000000000] w fun e w' => e = .returned (.tuple #[.int .i64 (x / 86400), .int .i64 0]) ∧ Stp [] w w' := by
  have h := muldiv_any x 1000000000 86400000000000 w (by omega) (by decide) (by decide)
  have e : mulDivS false x 1000000000 86400000000000 = (x / 86400, 0) := by
    unfold mulDivS
    rw [if_neg (by decide)]
    have : x * 1000000000 / 86400000000000 = x / 86400 := by omega
    simp only [Bool.false_eq_true, if_false, this]
    rw [if_pos (by omega)]
  rw [e] at h
  exact h

set_option maxHeartbeats 1000000 in
theorem add_any (bt bs : Nat) (t s a k : Int) (w : World) (ht : Blk w bt 2 #[.int .i64 t]) (hs : Blk w bs 2 #[.int .i64 s]) (hne : bt ≠ bs) (h0 : 0 ≤ t ∧ t ≤ 4611686018427387904) (ha : 86400000000000 ≤ a ∧ a ≤ 4611686018427387904) (hk : k = 1 ∨ k = -1) (hb : -1000000000000 ≤ s ∧ s ≤ 1000000000000) :
    Calls Try.prog 29 #[.agg #[.int .i64 a, .int .i64 k], .pointer (some ⟨bt, 0, none⟩), .pointer (some ⟨bs, 0, none⟩)] w fun e w' =>
      e = .returned (.bool (decide (goneS t a < 86400000000000))) ∧ Blk w' bs 2 #[.int .i64 (s + oneS t (a, k))] ∧ Stp [bs] w w' := by
  have c1 := fun w => clamp_any (t - (a - 43200000000000)) 0 86400000000000 w
  have eg : clampS (t - (a - 43200000000000)) 0 86400000000000 = goneS t a := rfl
  rw [eg] at c1
  have gb := goneS_bd t a
  have eo : oneS t (a, k) = goneS t a / 86400 * k := rfl
  rw [eo]
  generalize goneS t a = x at *
  have m1 := fun w => muldiv_day x w gb
  have lt1 := ht.lt
  have lt2 := hs.lt
  have P := Lib.hid (And.intro c1 (And.intro m1 (And.intro ht (And.intro hs hne))))
  have x0 := gb.1
  have x1 := gb.2
  have t0 := h0.1
  have t1 := h0.2
  have a0 := ha.1
  have a1 := ha.2
  have s0 := hb.1
  have s1 := hb.2
  have p0 : w.cell? ⟨bt, 0, none⟩ = some (.int .i64 t) := ht.cell 0
  clear c1 m1 ht hs eg eo gb h0 ha hb hne
  go_enter Try.func29, Try.ntmps29
  go_wp2_with fail
  refine (P.out.1 _).mono ?_
  rintro e w1 ⟨rfl, rfl⟩
  go_wp2_with fail
  refine (P.out.2.1 _).mono ?_
  rintro e w2 ⟨rfl, st⟩
  have q1 : w2.cell? ⟨w.heap.size, 1, none⟩ = some (.int .i64 k) := st.cell ((Blk.new w _ #[.int .i64 a, .int .i64 k]).cell 1) (by simp)
  have hs2 := st.at (show (w.alloc _).heap[bs]? = _ from P.out.2.2.2.1.alloc _) (by simp)
  have HS2 := Lib.hid hs2
  have q2 : w2.cell? ⟨bs, 0, none⟩ = some (.int .i64 s) := cell_at hs2 0
  have q3 : w2.frozen? ⟨bs, 0, none⟩ = false := free_at hs2 0
  clear p0 hs2
  rcases hk with rfl | rfl
  all_goals
    go_wp2_with (go_quiet (fail))
    go_ret
    refine ⟨rfl, ?_, ?_⟩
    · first
        | (rw [Int.mul_one]; exact set_at HS2.out 0 _)
        | (rw [show x / 86400 * -1 = -(x / 86400) by omega]; exact set_at HS2.out 0 _)
    · exact (((Stp.refl [bs] w).alloc _).trans st.of_nil).setCell (.inl (by simp)) _

/-- What a walk has as sum when it stands at the k-th leap. -/
theorem taken_take {L : List (Int × Int)} {t : Int} {k : Nat} (hk : k < L.length) : takenS t (L.take (k + 1)) = takenS t (L.take k) + oneS t L[k] := by
  rw [List.take_succ_eq_append_getElem hk, takenS_append, takenS_cons, takenS_nil, Int.add_zero]
theorem taken_full {L : List (Int × Int)} {t : Int} {k : Nat} (ok : LOk L) (hk : k < L.length) (hg : goneS t L[k].1 < 86400000000000) : takenS t (L.take (k + 1)) = takenS t L := by
  have e : takenS t L = takenS t (L.take (k + 1)) + takenS t (L.drop (k + 1)) := by rw [← takenS_append, List.take_append_drop]
  have hp : (L[k] :: L.drop (k + 1)).Pairwise fun x y => x.1 + 172800000000000 ≤ y.1 := by
    rw [← List.drop_eq_getElem_cons hk]
    exact ok.rise.sublist (List.drop_sublist k L)
  rw [takenS_break hp hg] at e
  omega

set_option maxRecDepth 100000 in
set_option maxHeartbeats 1000000 in
theorem taken_any (g : Nat) (L : List (Int × Int)) (t : Int) (w : World) (h : tabAt L w g) (ok : LOk L) :
    Calls Try.prog 14 #[.pointer (some ⟨g, 0, none⟩), .int .i64 t] w fun e w' => e = .returned (.int .i64 (takenS (instS t) L)) ∧ Stp [] w w' := by
  have i1 := fun w => inst_any t w
  have ib := instS_bd t
  generalize instS t = u at *
  have l1 := fun w h => list_any g L w h ok.len
  have P := Lib.hid (And.intro i1 (And.intro l1 h))
  have OK := Lib.hid ok
  have hg := h.lt
  clear i1 l1 h ok
  go_enter Try.func14, Try.ntmps14
  go_wp2_with fail
  refine (P.out.1 _).mono ?_
  rintro e w1 ⟨rfl, rfl⟩
  go_wp2_with fail
  refine (P.out.2.1 _ (by repeat (first | exact P.out.2.2 | apply tabAt.alloc))).mono ?_
  rintro e w2 ⟨v, rfl, hown, s2⟩
  obtain ⟨A2, c2, rfl, k1, k2, hrow⟩ := own_form (G := [w.heap.size + 1]) hown (by
    intro k hk he
    have := own_base hown he
    simp at hk this
    omega)
  have bt : Blk w2 w.heap.size 2 #[.int .i64 u] := s2.at (show _ = _ from (Blk.new w 2 #[.int .i64 u]).alloc _) (by simp)
  have bs0 : Blk ((w.alloc (.cells #[.int .i64 u] 2)).alloc (.cells #[.int .i64 0] 2)) (w.heap.size + 1) 2 #[.int .i64 0] := by
    have := Blk.new (w.alloc (.cells #[.int .i64 u] 2)) 2 #[.int .i64 0]
    rwa [World.size_alloc] at this
  have bs : Blk w2 (w.heap.size + 1) 2 #[.int .i64 0] := s2.at (show _ = _ from bs0) (by simp)
  have st2 : Stp [] w w2 := (((Stp.refl [] w).alloc _).alloc _).trans s2
  have Q := Lib.hid (And.intro bt (And.intro bs (And.intro hrow st2)))
  clear bt bs bs0 st2 hrow s2 hown
  obtain ⟨bs, hbs⟩ : ∃ bs, w.heap.size + 1 = bs := ⟨_, rfl⟩
  have u0 := ib.1
  have u1 := ib.2
  have hbs1 : w.heap.size ≠ bs := by omega
  rw [hbs] at Q
  go_wp2_with fail
  have HBS := Lib.hid hbs
  clear ib P hg hbs
  go_loopw [15] (fun i wr => ∃ k : Nat, k ≤ L.length ∧ i = .int .i64 k ∧ Hid (Blk wr bs 2 #[.int .i64 (takenS u (L.take k))]) ∧ Stp [bs] w2 wr) (fun i _ => L.length - (intOf i).toNat)
  case atStart => exact ⟨0, Nat.zero_le _, rfl, Q.out.2.1, Stp.refl _ _⟩
  case round =>
    obtain ⟨k, hk, rfl, HB, ht⟩ := hrel
    have hfin : ∀ wr', Stp [bs] wr wr' → Stp [] w wr' := fun wr' h => (Q.out.2.2.2.far (ht.trans h) (.inr (by have := HBS.out; omega)))
    have HF := Lib.hid hfin
    clear hfin
    by_cases hlt : k < L.length
    · obtain ⟨b, off, rfl, hbb, hbg, hcell⟩ := Q.out.2.2.1.2 (by omega)
      have hx := pcells_get L k hlt
      have hc1 : wr.cell? ⟨b, off + k * 2, none⟩ = some (.int .i64 L[k].1) := ht.cell (hcell _ _ hx.1) hbg
      have hc2 : wr.cell? ⟨b, off + k * 2 + 1, none⟩ = some (.int .i64 L[k].2) := ht.cell (hcell _ _ hx.2) hbg
      have hbk := OK.out.each L[k] (List.getElem_mem _)
      have hs1 := taken_take (t := u) hlt
      have hf1 := fun h => taken_full (t := u) OK.out hlt h
      have tb := takenS_bd u (L := L.take k) (fun x hx => (OK.out.each x (List.mem_of_mem_take hx)).2.2)
      have hl32 := OK.out.len
      have htl : (L.take k).length = k := by simp; omega
      rw [htl] at tb
      clear hx hcell htl
      generalize L[k] = y at *
      obtain ⟨y1, y2⟩ := y
      simp only at hc1 hc2 hbk hf1
      have T1 := Lib.hid hs1
      have T2 := Lib.hid hf1
      clear hs1 hf1
      have lt0 := (show Blk wr w.heap.size 2 #[.int .i64 u] from ht.at Q.out.1 (by simpa using hbs1)).lt
      have lt1 := HB.out.lt
      have a1 := add_any w.heap.size bs u (takenS u (L.take k)) y1 y2 (wr.alloc (.cells #[.int .i64 y1, .int .i64 y2] 30)) (Blk.alloc (ht.at Q.out.1 (by simpa using hbs1)) _) (HB.out.alloc _) hbs1 ⟨u0, u1⟩ ⟨hbk.1, hbk.2.1⟩ hbk.2.2 (by omega)
      rw [← T1.out] at a1
      have A1 := Lib.hid a1
      clear a1 hbk tb
      by_cases hg : goneS u y1 < 86400000000000
      · have hd : decide (goneS u y1 < 86400000000000) = true := decide_eq_true hg
        have e1 := T2.out hg
        go_wp2_with fail
        refine A1.out.mono ?_
        rintro e w3 ⟨rfl, hb3, s3⟩
        rw [e1] at hb3
        have x3 := hb3.cell 0
        simp at x3
        clear e1
        go_wp2_with fail
        go_ret
        exact ⟨rfl, HF.out _ (((Stp.refl _ _).alloc _).trans s3)⟩
      · have hd : decide (goneS u y1 < 86400000000000) = false := decide_eq_false hg
        go_wp2_with fail
        refine A1.out.mono ?_
        rintro e w3 ⟨rfl, hb3, s3⟩
        have HB3 := Lib.hid hb3
        clear hb3
        go_wp2_with fail
        go_roundw
        case rel => exact ⟨k + 1, by omega, by go_num, HB3, ht.trans (((Stp.refl _ _).alloc _).trans s3)⟩
        case measure => simp [intOf]; omega
    · have x3 := HB.out.cell 0
      rw [List.take_of_length_le (by omega)] at x3
      simp at x3
      go_wp2_with fail
      go_ret
      exact ⟨rfl, HF.out _ (Stp.refl _ _)⟩
end Go.Proofs.Ytbjjfjgomkmdhaa
