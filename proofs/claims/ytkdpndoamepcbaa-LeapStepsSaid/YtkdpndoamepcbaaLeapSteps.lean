/- LeapSteps: the offset changes at leaps alone, by their Kind; for any leaps that stand some days apart, and any base. -/
import Derived.Test.YtkdpndoamepcbaaLeapH
namespace Go.Proofs.Ytkdpndoamepcbaa
open Go.RowKit
set_option linter.unusedVariables false
set_option linter.unusedSimpArgs false
attribute [local go_sem ↓] Go.wp_at_zero Go.wp_at_succ

theorem cnt_is {t : Int} : ∀ {L : List (Int × Int)} {i : Nat}, i ≤ L.length → (∀ j (hj : j < i) (hl : j < L.length), L[j].1 ≤ t) → (∀ h : i < L.length, t < L[i].1) → cntS t L = i
  | [], i, hi, _, _ => by simp at hi; rw [hi]; rfl
  | x :: l, 0, hi, _, h2 => by
    have := h2 (by simp)
    simp at this
    unfold cntS
    rw [if_neg (by omega)]
  | x :: l, i + 1, hi, h1, h2 => by
    have h0 := h1 0 (by omega) (by simp)
    simp at h0
    have ih := cnt_is (t := t) (L := l) (i := i) (by simpa using hi) (fun j hj hl => h1 (j + 1) (by omega) (by simp; omega)) (fun h => h2 (by simp; omega))
    unfold cntS
    rw [if_pos h0, ih]
theorem rise_get {L : List (Int × Int)} (hr : Rise L) {i j : Nat} (hij : i < j) (hj : j < L.length) : L[i].1 + 172800000000000 ≤ L[j].1 :=
  List.pairwise_iff_getElem.1 hr i j (by omega) hj hij
/-- An instant between two leaps. -/
theorem cnt_mid {L : List (Int × Int)} (hr : Rise L) {i : Nat} (hi : i < L.length) {t : Int} (h1 : L[i].1 - 172800000000000 ≤ t) (h2 : t < L[i].1) : cntS t L = i :=
  cnt_is (by omega) (fun j hj hl => by have := rise_get hr hj hi; omega) (fun _ => h2)
theorem cnt_next {L : List (Int × Int)} (hr : Rise L) {i : Nat} (hi : i < L.length) {t : Int} (h1 : L[i].1 ≤ t) (h2 : t < L[i].1 + 172800000000000) : cntS t L = i + 1 :=
  cnt_is (by omega) (fun j hj hl => by
    rcases Nat.lt_or_ge j i with h | h
    · have := rise_get hr h hi; omega
    · have : j = i := by omega
      subst this
      exact h1) (fun h => by have := rise_get hr (show i < i + 1 by omega) h; omega)
theorem kind_take {L : List (Int × Int)} {i : Nat} (hi : i < L.length) : kindS (L.take (i + 1)) = kindS (L.take i) + L[i].2 := by
  rw [List.take_succ_eq_append_getElem hi, kindS_append]
  simp [kindS]
structure StepF (c : LT) (i : Nat) (a k : Int) : Prop where
  o1 : c.base + kS (a - 1) c.L = offK c i
  o2 : c.base + kS a c.L = offK c i + k
  o3 : offK c (i + 1) = offK c i + k
  l1 : labelS c.base c.L a = a - (offK c i + k) * 1000000000
  l2 : labelS c.base c.L (a + 1000000000) = a - (offK c i + k) * 1000000000 + 1000000000
  i1 : insS a c.L = decide (k = 1)
  i2 : insS (a + 1000000000) c.L = false
  e1 : k = 1 → hasS c (a - (offK c i + k) * 1000000000) false (a - 1000000000)
  e2 : k = -1 → hasS c (a - (offK c i + k) * 1000000000) false a
  e3 : k = -1 → ∀ u, ¬ hasS c (a - (offK c i + k) * 1000000000 - 1) false u
  nx : nextS (a - 1) c.L = (a, k, true)
theorem ins_mid {L : List (Int × Int)} (ok : LOk L) {i : Nat} (hi : i < L.length) {t : Int} (h1 : L[i].1 - 172800000000000 + 1000000000 ≤ t) (h2 : t < L[i].1) : insS t L = false := by
  rw [Bool.eq_false_iff]
  intro h
  obtain ⟨y, hy, y1, y2, y3⟩ := ins_iff.1 h
  rcases rise_ne ok.rise hy (List.getElem_mem hi) with h | h | h
  · rw [h] at y2; omega
  · omega
  · omega
theorem step_facts {c : LT} (ok : c.ok) {i : Nat} (hi : i < c.L.length) : StepF c i c.L[i].1 c.L[i].2 := by
  have hb := ok.leaps.each c.L[i] (List.getElem_mem hi)
  have c1 := cnt_mid ok.leaps.rise hi (t := c.L[i].1 - 1) (by omega) (by omega)
  have c2 := cnt_next ok.leaps.rise hi (t := c.L[i].1) (by omega) (by omega)
  have c3 := cnt_next ok.leaps.rise hi (t := c.L[i].1 + 1000000000) (by omega) (by omega)
  have c4 := cnt_mid ok.leaps.rise hi (t := c.L[i].1 - 1000000000) (by omega) (by omega)
  have k1 := kind_take hi
  have eo : offK c i = c.base + kindS (c.L.take i) := rfl
  have q1 : c.base + kS (c.L[i].1 - 1) c.L = offK c i := by unfold kS; rw [c1, eo]
  have q2 : c.base + kS c.L[i].1 c.L = offK c i + c.L[i].2 := by unfold kS; rw [c2, k1, eo]; omega
  have q3 : c.base + kS (c.L[i].1 + 1000000000) c.L = offK c i + c.L[i].2 := by unfold kS; rw [c3, k1, eo]; omega
  have q4 : c.base + kS (c.L[i].1 - 1000000000) c.L = offK c i := by unfold kS; rw [c4, eo]
  have m1 := ins_mid ok.leaps hi (t := c.L[i].1 - 1) (by omega) (by omega)
  have m2 := ins_mid ok.leaps hi (t := c.L[i].1 - 1000000000) (by omega) (by omega)
  have i1 : insS c.L[i].1 c.L = decide (c.L[i].2 = 1) := by
    rw [ins_at ok.leaps c2 hi]
    rcases hb.2.2 with h | h <;> rw [h] <;> simp
  have i2 : insS (c.L[i].1 + 1000000000) c.L = false := by
    rw [ins_at ok.leaps c3 hi]
    simp
    omega
  have l1 : labelS c.base c.L c.L[i].1 = c.L[i].1 - (offK c i + c.L[i].2) * 1000000000 := by unfold labelS; rw [q2]
  refine ⟨q1, q2, ?_, l1, ?_, i1, i2, fun h => ?_, fun h => ?_, fun h u hu => ?_, ?_⟩
  · show c.base + kindS (c.L.take (i + 1)) = _; rw [k1, eo]; omega
  · unfold labelS; rw [q3]; omega
  · refine ⟨by omega, by omega, ?_, m2⟩
    unfold labelS
    rw [q4, h]
    omega
  · refine ⟨by omega, by omega, l1, ?_⟩
    rw [i1, h]
    rfl
  · obtain ⟨u0, u1, u2, u3⟩ := hu
    have la : labelS c.base c.L (c.L[i].1 - 1) = c.L[i].1 - 1 - offK c i * 1000000000 := by unfold labelS; rw [q1]
    rcases Int.lt_trichotomy u c.L[i].1 with h1 | h1 | h1
    · rcases Int.lt_or_le u (c.L[i].1 - 1) with h2 | h2
      · have := label_mono ok.leaps (base := c.base) h2 m1
        omega
      · have : u = c.L[i].1 - 1 := by omega
        rw [this] at u2
        omega
    · rw [h1] at u2
      omega
    · have := label_mono ok.leaps (base := c.base) h1 u3
      omega
  · unfold nextS
    rw [c1, dif_pos hi]

theorem even_some {w : World} {g : Nat} {c : LT} {label : Int} {ins : Bool} (h : c.at w g) (ok : c.ok) (hlb : -4611690000000000000 ≤ label ∧ label ≤ 4611690000000000000) :
    Calls Try.prog 15 #[.pointer (some ⟨g, 0, none⟩), .int .i64 label, .bool ins] w fun e w' => ∃ (u : Int) (b : Bool), e = .returned (.tuple #[.int .i64 u, .bool b]) ∧ Stp [] w w' :=
  (even_walk g c label ins w h ok hlb).mono fun e w' ⟨hs, hp⟩ => by
    rcases hp with ⟨v, rfl, hv⟩ | ⟨rfl, hn⟩
    · exact ⟨_, _, rfl, hs⟩
    · exact ⟨_, _, rfl, hs⟩
theorem next_is {w : World} {g : Nat} {c : LT} {t a k : Int} {b : Bool} (h : c.at w g) (ok : c.ok) (hv : nextS t c.L = (a, k, b)) :
    Calls Try.prog 17 #[.pointer (some ⟨g, 0, none⟩), .int .i64 t] w fun e w' => e = .returned (.tuple #[.agg #[.int .i64 a, .int .i64 k], .bool b]) ∧ Stp [] w w' := by
  have := next_any g c t w h ok
  rw [hv] at this
  exact this
theorem offset_is {w : World} {g : Nat} {c : LT} {t v : Int} (h : c.at w g) (ok : c.ok) (hv : c.base + kS t c.L = v) :
    Calls Try.prog 16 #[.pointer (some ⟨g, 0, none⟩), .int .i64 t] w fun e w' => e = .returned (.int .i64 v) ∧ Stp [] w w' := by
  have := offset_any g c t w h ok
  rw [hv] at this
  exact this

set_option maxRecDepth 100000 in
set_option maxHeartbeats 8000000 in
theorem leapSteps_walk (A : Option Addr) (n c : Nat) (l : List Int) (bi : Int) (w : World) (hr : Reads w w.heap.size 1 A n (l.map (Value.int .u8))) (hl : l.length = n) (hn : n * 1 ≤ 140737488351232) (hb : ∀ x ∈ l, 0 ≤ x ∧ x ≤ 255) (hbi : -32768 ≤ bi ∧ bi ≤ 32767) :
    Calls Try.prog 6 #[.slice A n c, .int .i16 bi] w fun e w' => e = .returned (.bool true) ∧ Stp [] w w' := by
  obtain ⟨tb, htb⟩ : ∃ tb, bi.tmod 1001 = tb := ⟨_, rfl⟩
  have tb0 : -1001 < tb := by rw [← htb]; exact Int.lt_tmod_of_pos bi (by decide)
  have tb1 : tb < 1001 := by rw [← htb]; exact Int.tmod_lt_of_pos bi (by decide)
  have m1 := lmade_any A n c l tb w (RowIn.of_reads (G := []) hr (Nat.le_refl _) (by simp) (by decide)) hl (by omega) hb (by omega)
  obtain ⟨ok, hfar, hlen⟩ := lmade_ok l (base := tb) (by omega)
  have hML : (lmadeT l tb).L = lmadeL l := rfl
  have hbase : (lmadeT l tb).base = tb := rfl
  rw [← hML] at hfar hlen
  clear hML
  generalize lmadeT l tb = M at *
  have P := Lib.hid (And.intro m1 (And.intro ok (And.intro hfar hbase)))
  clear m1 hr hl hb hn hfar hbi ok hbase
  go_enter Try.func6, Try.ntmps6
  go_wp2_with fail
  refine P.out.1.mono ?_
  rintro e w1 ⟨g, A2, c2, rfl, a1, hrow, s1, _, k1, k2⟩
  have Z := Lib.hid (And.intro a1 (And.intro hrow s1))
  have ok := P.out.2.1
  obtain ⟨N, hN⟩ : ∃ N, M.L.length = N := ⟨_, rfl⟩
  rw [hN] at k1 hlen ⊢
  have HN := Lib.hid hN
  clear a1 hrow s1 hN
  go_wp2_with fail
  go_loopw [7, 8] (fun v i wr => ∃ k : Nat, k ≤ N ∧ i = .int .i64 k ∧ v = .int .i64 (offK M k) ∧ Stp [] w1 wr) (fun _ i _ => N - (intOf i).toNat)
  case atStart => exact ⟨0, Nat.zero_le _, rfl, by unfold offK; rw [P.out.2.2.2]; simp [kindS], Stp.refl _ _⟩
  case round =>
    obtain ⟨k, hk, rfl, rfl, ht⟩ := hrel
    by_cases hlt : k < N
    · have hkL : k < M.L.length := by have := HN.out; omega
      obtain ⟨b, off, rfl, hbb, hbg, hcell⟩ := Z.out.2.1.2 (by omega)
      have hx := pcells_get M.L k hkL
      have hc1 : wr.cell? ⟨b, off + k * 2, none⟩ = some (.int .i64 M.L[k].1) := ht.cell (hcell _ _ hx.1) (by simp)
      have hc2 : wr.cell? ⟨b, off + k * 2 + 1, none⟩ = some (.int .i64 M.L[k].2) := ht.cell (hcell _ _ hx.2) (by simp)
      have hf := P.out.2.2.1 M.L[k] (List.getElem_mem _)
      have hbk := (ok.leaps.each M.L[k] (List.getElem_mem _)).2.2
      have sf := step_facts ok hkL
      have ob : -1032 ≤ offK M k ∧ offK M k ≤ 1032 := by
        have := take_kind_bd ok.leaps k
        have := ok.b0
        have := ok.b1
        unfold offK
        omega
      clear hx hcell
      generalize M.L[k] = y at *
      obtain ⟨y1, y2⟩ := y
      simp only at hc1 hc2 hf hbk sf
      obtain ⟨f1, f2, f3, f4, f5, f6, f7, f8, f9, f10, f11⟩ := sf
      obtain ⟨o0, o1⟩ := ob
      obtain ⟨hf0, hf1⟩ := hf
      have AT := Lib.hid (Z.out.1.stp ht)
      have T := Lib.hid ht
      generalize hO : offK M k = o at *
      have x1 := fun w h => offset_is (w := w) (g := g) h ok f1
      have x2 := fun w h => offset_is (w := w) (g := g) h ok f2
      have x3 := fun w h => label_is (w := w) (g := g) (t := y1) h ok (by omega) f4 f6
      have x4 := fun w h => label_is (w := w) (g := g) (t := y1 + 1000000000) h ok (by omega) f5 f7
      have x5 := fun w h => next_is (w := w) (g := g) h ok f11
      obtain ⟨p, hp⟩ : ∃ p, y1 - (o + y2) * 1000000000 = p := ⟨_, rfl⟩
      have p0 : -2000000000000 ≤ p := by omega
      have p1 : p ≤ 300000000000000000 := by omega
      rw [hp] at x3 x4 f8 f9 f10
      have x6 := fun hk1 w h => even_is (w := w) (g := g) h ok (by omega) (f8 hk1)
      have x7 := fun hk1 w h => even_is (w := w) (g := g) h ok (by omega) (f9 hk1)
      have x8 := fun hk1 w h => even_not (w := w) (g := g) h ok (by omega) (f10 hk1)
      have x9 := fun w h => even_some (w := w) (g := g) (label := p - 1) (ins := false) h ok (by omega)
      have X := Lib.hid (And.intro x1 (And.intro x2 (And.intro x3 (And.intro x4 (And.intro x5 (And.intro f3 (And.intro x6 (And.intro x7 (And.intro x8 x9)))))))))
      clear x1 x2 x3 x4 x5 x6 x7 x8 x9 f1 f2 f3 f4 f5 f6 f7 f8 f9 f10 f11 hp ht hO
      have e1 : IntKind.i64.wrap (y1 - 1) = y1 - 1 := IntWalk.i64_in _ (by omega)
      have e2 : IntKind.i64.wrap (o + y2) = o + y2 := IntWalk.i64_in _ (by omega)
      have kk0 : (0 : Int) ≤ (k : Int) := by omega
      have kk1 : (k : Int) < (N : Int) := by omega
      go_wp2_with fail
      go_region_held3 (fun w' => w'.cell? ⟨b, off + k * 2, none⟩ = some (.int .i64 y1) ∧ w'.cell? ⟨b, off + k * 2 + 1, none⟩ = some (.int .i64 y2) ∧ Stp [] wr w') (first | exact ⟨hc1, hc2, Stp.refl _ _⟩ | exact ⟨hc1, hc2, (Stp.refl _ _).drew⟩ | (go_split_ands; refine ⟨s9.cell ?_ (by simp), s9.cell ?_ (by simp), Stp.trans ?_ s9⟩ <;> first | assumption | (apply Stp.drew; assumption) | (apply Stp.drewN; assumption)) | (go_split_ands; refine ⟨?_, ?_, ?_⟩ <;> first | assumption | (apply Stp.drew; assumption) | (apply Stp.drewN; assumption)))
        ((first | (go_at_call 16; (with_reducible refine (X.out.1 _ (by first | exact AT.out.stp (by first | assumption | (go_split_ands; assumption) | (go_split_ands; apply Stp.drew; assumption) | exact Stp.refl _ _ | exact (Stp.refl _ _).drew))).mono ?_); rintro e w9 ⟨rfl, s9⟩) | (go_at_call 16; (with_reducible refine (X.out.2.1 _ (by first | exact AT.out.stp (by first | assumption | (go_split_ands; assumption) | (go_split_ands; apply Stp.drew; assumption) | exact Stp.refl _ _ | exact (Stp.refl _ _).drew))).mono ?_); rintro e w9 ⟨rfl, s9⟩)))
      clear e1 e2
      have T9 : Stp [] wr w9 := by first | assumption | (go_split_ands; assumption)
      rcases hbk with rfl | rfl
      · go_wp2_with fail
        refine (X.out.2.2.1 _ (AT.out.stp T9)).mono ?_
        rintro e v1 ⟨rfl, t1⟩
        have T1 := T9.trans t1
        have d1 : v1.cell? ⟨b, off + k * 2, none⟩ = some (.int .i64 y1) := T1.cell hc1 (by simp)
        have d2 : v1.cell? ⟨b, off + k * 2 + 1, none⟩ = some (.int .i64 1) := T1.cell hc2 (by simp)
        clear t1
        go_wp2_with fail
        refine (X.out.2.2.2.1 _ (AT.out.stp T1)).mono ?_
        rintro e v2 ⟨rfl, t2⟩
        have T2 := T1.trans t2
        have d3 : v2.cell? ⟨b, off + k * 2, none⟩ = some (.int .i64 y1) := T2.cell hc1 (by simp)
        have d4 : v2.cell? ⟨b, off + k * 2 + 1, none⟩ = some (.int .i64 1) := T2.cell hc2 (by simp)
        clear t2
        go_wp2_with fail
        refine (X.out.2.2.2.2.2.2.1 (by first | rfl | trivial) _ (AT.out.stp T2)).mono ?_
        rintro e v3 ⟨rfl, t3⟩
        have T3 := T2.trans t3
        have d5 : v3.cell? ⟨b, off + k * 2, none⟩ = some (.int .i64 y1) := T3.cell hc1 (by simp)
        have d6 : v3.cell? ⟨b, off + k * 2 + 1, none⟩ = some (.int .i64 1) := T3.cell hc2 (by simp)
        clear t3
        go_wp2_with fail
        refine (X.out.2.2.2.2.2.2.2.2.2 _ (AT.out.stp T3)).mono ?_
        rintro e v4 ⟨_, _, rfl, t4⟩
        have T4 := T3.trans t4
        have d7 : v4.cell? ⟨b, off + k * 2, none⟩ = some (.int .i64 y1) := T4.cell hc1 (by simp)
        have d8 : v4.cell? ⟨b, off + k * 2 + 1, none⟩ = some (.int .i64 1) := T4.cell hc2 (by simp)
        clear t4
        go_wp2_with fail
        refine (X.out.2.2.2.2.1 _ (AT.out.stp T4)).mono ?_
        rintro e v5 ⟨rfl, t5⟩
        have T5 := T4.trans t5
        have d9 : v5.cell? ⟨b, off + k * 2, none⟩ = some (.int .i64 y1) := T5.cell hc1 (by simp)
        have d10 : v5.cell? ⟨b, off + k * 2 + 1, none⟩ = some (.int .i64 1) := T5.cell hc2 (by simp)
        have bx := Blk.new v5 34 #[.int .i64 y1, .int .i64 1]
        have u0 := bx.cell 0
        have u1 := bx.cell 1
        have hbl := World.block_lt_of_cell? v5 _ d9
        have d11 : (v5.alloc (.cells #[.int .i64 y1, .int .i64 1] 34)).cell? ⟨b, off + k * 2, none⟩ = some (.int .i64 y1) := (World.cell?_alloc_lt _ _ ⟨b, off + k * 2, none⟩ hbl).trans d9
        have d12 : (v5.alloc (.cells #[.int .i64 y1, .int .i64 1] 34)).cell? ⟨b, off + k * 2 + 1, none⟩ = some (.int .i64 1) := (World.cell?_alloc_lt _ _ ⟨b, off + k * 2 + 1, none⟩ hbl).trans d10
        simp at u0 u1
        clear d1 d2 d3 d4 d5 d6 d7 d8 t5 bx
        have T6 := Lib.hid (T5.alloc (.cells #[.int .i64 y1, .int .i64 1] 34))
        go_wp2_with (go_quiet (fail))
        go_roundw
        case rel => exact ⟨k + 1, by omega, by go_num, by rw [X.out.2.2.2.2.2.1], by first | exact T.out.trans T6.out | exact (T.out.trans T6.out).drewN _ | exact (T.out.trans T6.out).drew⟩
        case measure => simp [intOf]; omega
      · go_wp2_with fail
        refine (X.out.2.2.1 _ (AT.out.stp T9)).mono ?_
        rintro e v1 ⟨rfl, t1⟩
        have T1 := T9.trans t1
        have d1 : v1.cell? ⟨b, off + k * 2, none⟩ = some (.int .i64 y1) := T1.cell hc1 (by simp)
        have d2 : v1.cell? ⟨b, off + k * 2 + 1, none⟩ = some (.int .i64 (-1)) := T1.cell hc2 (by simp)
        clear t1
        go_wp2_with fail
        refine (X.out.2.2.2.1 _ (AT.out.stp T1)).mono ?_
        rintro e v2 ⟨rfl, t2⟩
        have T2 := T1.trans t2
        have d3 : v2.cell? ⟨b, off + k * 2, none⟩ = some (.int .i64 y1) := T2.cell hc1 (by simp)
        have d4 : v2.cell? ⟨b, off + k * 2 + 1, none⟩ = some (.int .i64 (-1)) := T2.cell hc2 (by simp)
        clear t2
        go_wp2_with fail
        refine (X.out.2.2.2.2.2.2.2.1 (by first | rfl | trivial) _ (AT.out.stp T2)).mono ?_
        rintro e v3 ⟨rfl, t3⟩
        have T3 := T2.trans t3
        have d5 : v3.cell? ⟨b, off + k * 2, none⟩ = some (.int .i64 y1) := T3.cell hc1 (by simp)
        have d6 : v3.cell? ⟨b, off + k * 2 + 1, none⟩ = some (.int .i64 (-1)) := T3.cell hc2 (by simp)
        clear t3
        go_wp2_with fail
        refine (X.out.2.2.2.2.2.2.2.2.1 (by first | rfl | trivial) _ (AT.out.stp T3)).mono ?_
        rintro e v4 ⟨rfl, t4⟩
        have T4 := T3.trans t4
        have d7 : v4.cell? ⟨b, off + k * 2, none⟩ = some (.int .i64 y1) := T4.cell hc1 (by simp)
        have d8 : v4.cell? ⟨b, off + k * 2 + 1, none⟩ = some (.int .i64 (-1)) := T4.cell hc2 (by simp)
        clear t4
        go_wp2_with fail
        refine (X.out.2.2.2.2.1 _ (AT.out.stp T4)).mono ?_
        rintro e v5 ⟨rfl, t5⟩
        have T5 := T4.trans t5
        have d9 : v5.cell? ⟨b, off + k * 2, none⟩ = some (.int .i64 y1) := T5.cell hc1 (by simp)
        have d10 : v5.cell? ⟨b, off + k * 2 + 1, none⟩ = some (.int .i64 (-1)) := T5.cell hc2 (by simp)
        have bx := Blk.new v5 34 #[.int .i64 y1, .int .i64 (-1)]
        have u0 := bx.cell 0
        have u1 := bx.cell 1
        have hbl := World.block_lt_of_cell? v5 _ d9
        have d11 : (v5.alloc (.cells #[.int .i64 y1, .int .i64 (-1)] 34)).cell? ⟨b, off + k * 2, none⟩ = some (.int .i64 y1) := (World.cell?_alloc_lt _ _ ⟨b, off + k * 2, none⟩ hbl).trans d9
        have d12 : (v5.alloc (.cells #[.int .i64 y1, .int .i64 (-1)] 34)).cell? ⟨b, off + k * 2 + 1, none⟩ = some (.int .i64 (-1)) := (World.cell?_alloc_lt _ _ ⟨b, off + k * 2 + 1, none⟩ hbl).trans d10
        simp at u0 u1
        clear d1 d2 d3 d4 d5 d6 d7 d8 t5 bx
        have T6 := Lib.hid (T5.alloc (.cells #[.int .i64 y1, .int .i64 (-1)] 34))
        go_wp2_with (go_quiet (fail))
        go_roundw
        case rel => exact ⟨k + 1, by omega, by go_num, by rw [X.out.2.2.2.2.2.1], by first | exact T.out.trans T6.out | exact (T.out.trans T6.out).drewN _ | exact (T.out.trans T6.out).drew⟩
        case measure => simp [intOf]; omega
    · obtain rfl : k = N := by omega
      have c1 : cntS 4611686018427387904 M.L = M.L.length := cnt_is (Nat.le_refl _) (fun j _ hl => (ok.leaps.each M.L[j] (List.getElem_mem _)).2.1) (fun h => by omega)
      have c0 : cntS 0 M.L = 0 := cnt_is (Nat.zero_le _) (fun j hj => absurd hj (by omega)) (fun h => by have := (ok.leaps.each M.L[0] (List.getElem_mem _)).1; omega)
      have n1 : nextS 4611686018427387904 M.L = (0, 0, false) := by unfold nextS; rw [dif_neg (by omega)]
      have q1 : M.base + kS 4611686018427387904 M.L = offK M k := by unfold kS offK; rw [c1, HN.out]
      have q0 : M.base + kS 0 M.L = tb := by unfold kS; rw [c0, P.out.2.2.2]; simp [kindS]
      have AT := Lib.hid (Z.out.1.stp ht)
      have T := Lib.hid (Z.out.2.2.trans ht)
      have x1 := fun w h => next_is (w := w) (g := g) h ok n1
      have x2 := fun w h => offset_is (w := w) (g := g) h ok q1
      have x3 := fun w h => offset_is (w := w) (g := g) h ok q0
      have X := Lib.hid (And.intro x1 (And.intro x2 x3))
      clear x1 x2 x3 q1 q0 n1 c1 c0 ht
      generalize offK M k = o at *
      go_wp2_with fail
      refine (X.out.1 _ AT.out).mono ?_
      rintro e v1 ⟨rfl, t1⟩
      have T1 := t1.alloc (.cells #[.int .i64 0, .int .i64 0] 34)
      go_wp2_with fail
      refine (X.out.2.1 _ (AT.out.stp T1)).mono ?_
      rintro e v2 ⟨rfl, t2⟩
      have T2 := T1.trans t2
      go_wp2_with fail
      refine (X.out.2.2 _ (AT.out.stp T2)).mono ?_
      rintro e v3 ⟨rfl, t3⟩
      have T3 := T2.trans t3
      go_wp2_with fail
      refine (alive_any _).mono ?_
      rintro e v4 ⟨rfl, t4⟩
      go_wp2_with fail
      go_ret
      exact ⟨rfl, (T.out.trans T3).trans t4⟩
end Go.Proofs.Ytkdpndoamepcbaa
