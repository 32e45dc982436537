/- SmearDays: a leap's day begins half a Day ahead of it and ends half a Day behind; within it what was taken grows evenly. -/
import Derived.Test.YtbjjfjgomkmdhaaSmearF
import Derived.Test.YtbjjfjgomkmdhaaSmearG
namespace Go.Proofs.Ytbjjfjgomkmdhaa
open Go.RowKit
set_option linter.unusedVariables false
set_option linter.unusedSimpArgs false
attribute [local go_sem ↓] Go.wp_at_zero Go.wp_at_succ

theorem taken_still : ∀ {L : List (Int × Int)} {t s : Int}, t ≤ s → (∀ x ∈ L, x.1 + 43200000000000 ≤ t ∨ s ≤ x.1 - 43200000000000) → takenS s L = takenS t L
  | [], _, _, _, _ => rfl
  | x :: L, t, s, hts, h => by
    have ih := taken_still (L := L) hts (fun y hy => h y (List.mem_cons_of_mem _ hy))
    have hx := h x (List.mem_cons_self ..)
    have e : goneS s x.1 = goneS t x.1 := by rw [goneS_mm, goneS_mm]; omega
    rw [takenS_cons, takenS_cons, ih]
    unfold oneS
    rw [e]
theorem rise_get {L : List (Int × Int)} (hr : L.Pairwise fun x y => x.1 + 172800000000000 ≤ y.1) {i j : Nat} (hij : i < j) (hj : j < L.length) : L[i].1 + 172800000000000 ≤ L[j].1 :=
  List.pairwise_iff_getElem.1 hr i j (by omega) hj hij
/-- What holds around the day of the leap k, which begins at fr. -/
structure DayF (M : List (Int × Int)) (k : Nat) (fr kd : Int) : Prop where
  taken : ∀ t, fr ≤ t → t ≤ fr + 86400000000000 → takenS t M = takenS fr M + (t - fr) / 86400 * kd
  day : ∀ t, fr ≤ t → t < fr + 86400000000000 → (max (withinS M t) 0, decide (0 ≤ withinS M t)) = ((k : Int), true)
  out_ : ∀ t, t = fr + 86400000000000 → (max (withinS M t) 0, decide (0 ≤ withinS M t)) = ((0 : Int), false)
  ahead : ∀ t, t = fr - 1 → (max (withinS M t) 0, decide (0 ≤ withinS M t)) = ((0 : Int), false)
theorem day_facts {M : List (Int × Int)} (ok : LOk M) (hfar : ∀ x ∈ M, x.1 ≤ 1000000000000000000) {k : Nat} (hk : k < M.length) : DayF M k (M[k].1 - 43200000000000) M[k].2 := by
  have hb := ok.each M[k] (List.getElem_mem hk)
  have hf := hfar M[k] (List.getElem_mem hk)
  have lo : ∀ j (hj : j < k), M[j].1 + 172800000000000 ≤ M[k].1 := fun j hj => rise_get ok.rise hj hk
  have hi : ∀ j (hj : k < j) (hl : j < M.length), M[k].1 + 172800000000000 ≤ M[j].1 := fun j hj hl => rise_get ok.rise hj hl
  have none_ : ∀ t, 0 ≤ t → t ≤ 4611686018427387904 → (t = M[k].1 - 43200000000000 + 86400000000000 ∨ t = M[k].1 - 43200000000000 - 1) → (max (withinS M t) 0, decide (0 ≤ withinS M t)) = ((0 : Int), false) := fun t h0 h1 ht => by
    have e : withinS M t = -1 := by
      unfold withinS
      rw [instS_id h0 h1]
      refine idxS_none fun x hx => ?_
      obtain ⟨j, hj, rfl⟩ := List.getElem_of_mem hx
      unfold inS
      rcases Nat.lt_trichotomy j k with h | h | h
      · have := lo j h; simp; omega
      · subst h; simp; omega
      · have := hi j h hj; simp; omega
    rw [e]
    rfl
  refine ⟨fun t h0 h1 => ?_, fun t h0 h1 => ?_, fun t ht => none_ t (by omega) (by omega) (.inl ht), fun t ht => none_ t (by omega) (by omega) (.inr ht)⟩
  · have sp : M = M.take k ++ (M[k] :: M.drop (k + 1)) := by rw [← List.drop_eq_getElem_cons hk, List.take_append_drop]
    have t1 := taken_still (L := M.take k) h0 (fun x hx => by
      obtain ⟨j, hj, rfl⟩ := List.getElem_of_mem hx
      simp at hj
      have := lo j (by omega)
      simp
      omega)
    have t2 := taken_still (L := M.drop (k + 1)) h0 (fun x hx => by
      obtain ⟨j, hj, rfl⟩ := List.getElem_of_mem hx
      simp at hj
      have := hi (k + 1 + j) (by omega) (by omega)
      simp
      omega)
    have e : ∀ u, takenS u M = takenS u (M.take k) + (oneS u M[k] + takenS u (M.drop (k + 1))) := fun u => by
      conv => lhs; rw [sp]
      rw [takenS_append, takenS_cons]
    rw [e t, e (M[k].1 - 43200000000000), t1, t2]
    have g0 : goneS (M[k].1 - 43200000000000) M[k].1 = 0 := by rw [goneS_mm]; omega
    have g1 : goneS t M[k].1 = t - (M[k].1 - 43200000000000) := by rw [goneS_mm]; omega
    unfold oneS
    rw [g0, g1]
    simp
    omega
  · have e : withinS M t = k := by
      unfold withinS
      rw [instS_id (by omega) (by omega)]
      refine idxS_some hk (fun j hj => ?_) ?_
      · have := lo j hj
        unfold inS
        simp
        omega
      · unfold inS
        simp
        omega
    rw [e]
    simp

set_option maxRecDepth 100000 in
set_option maxHeartbeats 16000000 in
theorem smearDays_walk (A : Option Addr) (n c : Nat) (l : List (Int × Bool)) (a : Int) (w : World) (hr : Reads w w.heap.size 2 A n (gcells l)) (hl : l.length = n) (hn : n * 4 ≤ 140737488351232) (hb : ∀ x ∈ l, 0 ≤ x.1 ∧ x.1 ≤ 65535) (ha : 0 ≤ a ∧ a ≤ 255) :
    Calls Try.prog 4 #[.slice A n c, .int .u8 a] w fun e w' => e = .returned (.bool true) ∧ Stp [] w w' := by
  have m1 := made_any A n c l w hr hl hn hb
  obtain ⟨ok, hfar⟩ := made_ok l
  generalize madeL l = M at *
  obtain ⟨a0, a1⟩ := ha
  have P := Lib.hid (And.intro m1 (And.intro ok hfar))
  clear m1 hr hl hb hn hfar ok
  go_enter Try.func4, Try.ntmps4
  go_wp2_with fail
  refine P.out.1.mono ?_
  rintro e w1 ⟨g, A2, c2, rfl, h1, hrow, s1, _, k1, k2⟩
  go_wp2_with fail
  refine (awake_any _).mono ?_
  rintro e w2 ⟨rfl, s2⟩
  have ok := P.out.2.1
  have hfar := P.out.2.2
  have hrow2 := hrow.stp s2
  have Z := Lib.hid (s1.trans s2)
  have tab2 := h1.stp s2
  have hl32 := ok.len
  clear hrow s1 s2 h1 P
  rcases Nat.eq_zero_or_pos M.length with hz | hz
  · have hM : M = [] := List.eq_nil_of_length_eq_zero hz
    subst hM
    have W := Lib.hid (fun w h => within_is (w := w) (g := g) (L := []) (t := a * 86400000000000) 0 false h LOk.nil rfl)
    have T := Lib.hid (fun w h => taken_is (w := w) (g := g) (L := []) (t := a * 86400000000000) h LOk.nil (v := 0) rfl)
    have C := Lib.hid tab2
    clear tab2 hrow2 hfar ok hl32 hz
    go_wp2_with fail
    refine (W.out _ C.out).mono ?_
    rintro e w3 ⟨rfl, s3⟩
    go_wp2_with fail
    refine (T.out _ (C.out.stp s3)).mono ?_
    rintro e w4 ⟨rfl, s4⟩
    go_wp2_with fail
    go_ret
    exact ⟨rfl, (Z.out.trans s3).trans s4⟩
  · obtain ⟨N, hN⟩ : ∃ N, M.length = N := ⟨_, rfl⟩
    rw [hN] at hrow2 hz k1 hl32 ⊢
    obtain ⟨jn, hj⟩ : ∃ jn : Nat, a % (N : Int) = jn := ⟨(a % (N : Int)).toNat, by have := Int.emod_nonneg a (show (N : Int) ≠ 0 by omega); omega⟩
    have hjN : jn < N := by have := Int.emod_lt_of_pos a (show 0 < (N : Int) by omega); omega
    have hjL : jn < M.length := by omega
    obtain ⟨b, off, rfl, hbb, hbg, hcell⟩ := hrow2.2 hz
    have hx := pcells_get M jn hjL
    have hc1 : w2.cell? ⟨b, off + jn * 2, none⟩ = some (.int .i64 M[jn].1) := hcell _ _ hx.1
    have hc2 : w2.cell? ⟨b, off + jn * 2 + 1, none⟩ = some (.int .i64 M[jn].2) := hcell _ _ hx.2
    have hbk := ok.each M[jn] (List.getElem_mem _)
    have hf := hfar M[jn] (List.getElem_mem _)
    have df := day_facts ok hfar hjL
    clear hx hcell hfar hrow2
    generalize M[jn] = y at *
    clear hN
    obtain ⟨y1, kd⟩ := y
    simp only at hc1 hc2 hbk hf df
    obtain ⟨y10, y11, hkd⟩ := hbk
    obtain ⟨fr, hfr⟩ : ∃ fr, y1 - 43200000000000 = fr := ⟨_, rfl⟩
    rw [hfr] at df
    have f0 : 43200000000000 ≤ fr := by omega
    have f1 : fr ≤ 1000000000000000000 := by omega
    obtain ⟨bg, hbg⟩ : ∃ bg, takenS fr M = bg := ⟨_, rfl⟩
    have bb := takenS_bd fr (L := M) (fun x hx => (ok.each x hx).2.2)
    rw [hbg] at bb
    have hl33 := ok.len
    have bb0 : -32000000000 ≤ bg := by omega
    have bb1 : bg ≤ 32000000000 := by omega
    have j0 : (0 : Int) ≤ (jn : Int) := by omega
    have j1 : (jn : Int) < (N : Int) := by omega
    clear bb hl33
    rcases hkd with rfl | rfl
    · have C := Lib.hid (And.intro hc2 tab2)
      clear tab2
      obtain ⟨v0, hv0⟩ : ∃ v, takenS fr M = v := ⟨_, rfl⟩
      have a0 : v0 = bg + 0 := by
        rw [← hv0, df.taken fr (by omega) (by omega), hbg]
        omega
      have T0 := Lib.hid (fun w h => taken_is (w := w) (g := g) (t := fr) h ok (v := v0) (by rw [instS_id (by omega) (by omega)]; exact hv0))
      have W0 := Lib.hid (fun w h => within_is (w := w) (g := g) (t := fr) ((jn : Int)) (true) h ok (df.day fr (by omega) (by omega)))
      have b0 : IntKind.i64.wrap (v0 - bg) = 0 := by rw [a0]; rw [show bg + 0 - bg = 0 by omega]; rfl
      obtain ⟨v1, hv1⟩ : ∃ v, takenS (fr + 21600000000000) M = v := ⟨_, rfl⟩
      have a1 : v1 = bg + 250000000 := by
        rw [← hv1, df.taken (fr + 21600000000000) (by omega) (by omega), hbg]
        omega
      have T1 := Lib.hid (fun w h => taken_is (w := w) (g := g) (t := (fr + 21600000000000)) h ok (v := v1) (by rw [instS_id (by omega) (by omega)]; exact hv1))
      have W1 := Lib.hid (fun w h => within_is (w := w) (g := g) (t := (fr + 21600000000000)) ((jn : Int)) (true) h ok (df.day (fr + 21600000000000) (by omega) (by omega)))
      have b1 : IntKind.i64.wrap (v1 - bg) = 250000000 := by rw [a1]; rw [show bg + 250000000 - bg = 250000000 by omega]; rfl
      obtain ⟨v2, hv2⟩ : ∃ v, takenS (fr + 43200000000000) M = v := ⟨_, rfl⟩
      have a2 : v2 = bg + 500000000 := by
        rw [← hv2, df.taken (fr + 43200000000000) (by omega) (by omega), hbg]
        omega
      have T2 := Lib.hid (fun w h => taken_is (w := w) (g := g) (t := (fr + 43200000000000)) h ok (v := v2) (by rw [instS_id (by omega) (by omega)]; exact hv2))
      have W2 := Lib.hid (fun w h => within_is (w := w) (g := g) (t := (fr + 43200000000000)) ((jn : Int)) (true) h ok (df.day (fr + 43200000000000) (by omega) (by omega)))
      have b2 : IntKind.i64.wrap (v2 - bg) = 500000000 := by rw [a2]; rw [show bg + 500000000 - bg = 500000000 by omega]; rfl
      obtain ⟨v3, hv3⟩ : ∃ v, takenS (fr + 64800000000000) M = v := ⟨_, rfl⟩
      have a3 : v3 = bg + 750000000 := by
        rw [← hv3, df.taken (fr + 64800000000000) (by omega) (by omega), hbg]
        omega
      have T3 := Lib.hid (fun w h => taken_is (w := w) (g := g) (t := (fr + 64800000000000)) h ok (v := v3) (by rw [instS_id (by omega) (by omega)]; exact hv3))
      have W3 := Lib.hid (fun w h => within_is (w := w) (g := g) (t := (fr + 64800000000000)) ((jn : Int)) (true) h ok (df.day (fr + 64800000000000) (by omega) (by omega)))
      have b3 : IntKind.i64.wrap (v3 - bg) = 750000000 := by rw [a3]; rw [show bg + 750000000 - bg = 750000000 by omega]; rfl
      obtain ⟨v4, hv4⟩ : ∃ v, takenS (fr + 86400000000000) M = v := ⟨_, rfl⟩
      have a4 : v4 = bg + 1000000000 := by
        rw [← hv4, df.taken (fr + 86400000000000) (by omega) (by omega), hbg]
        omega
      have T4 := Lib.hid (fun w h => taken_is (w := w) (g := g) (t := (fr + 86400000000000)) h ok (v := v4) (by rw [instS_id (by omega) (by omega)]; exact hv4))
      have W4 := Lib.hid (fun w h => within_is (w := w) (g := g) (t := (fr + 86400000000000)) (0) (false) h ok (df.out_ (fr + 86400000000000) (by omega)))
      have b4 : IntKind.i64.wrap (v4 - bg) = 1000000000 := by rw [a4]; rw [show bg + 1000000000 - bg = 1000000000 by omega]; rfl
      have q0 : v0 - bg = 0 := by omega
      have q1 : v1 - bg = 250000000 := by omega
      have q2 : v2 - bg = 500000000 := by omega
      have q3 : v3 - bg = 750000000 := by omega
      have q4 : v4 - bg = 1000000000 := by omega
      have lw0 : IntKind.i64.wrap 0 = 0 := by decide
      have lw1 : IntKind.i64.wrap 1 = 1 := by decide
      have lw2 : IntKind.i64.wrap 2 = 2 := by decide
      have lw3 : IntKind.i64.wrap 3 = 3 := by decide
      have lw4 : IntKind.i64.wrap 4 = 4 := by decide
      have lw5 : IntKind.i64.wrap 250000000 = 250000000 := by decide
      have lw6 : IntKind.i64.wrap 500000000 = 500000000 := by decide
      have lw7 : IntKind.i64.wrap 750000000 = 750000000 := by decide
      have lw8 : IntKind.i64.wrap 1000000000 = 1000000000 := by decide
      have lw9 : IntKind.i64.wrap 2000000000 = 2000000000 := by decide
      have lw10 : IntKind.i64.wrap 3000000000 = 3000000000 := by decide
      have lw11 : IntKind.i64.wrap 4000000000 = 4000000000 := by decide
      have lw12 : IntKind.i64.wrap 21600000000000 = 21600000000000 := by decide
      have lw13 : IntKind.i64.wrap 43200000000000 = 43200000000000 := by decide
      have lw14 : IntKind.i64.wrap 64800000000000 = 64800000000000 := by decide
      have lw15 : IntKind.i64.wrap 86400000000000 = 86400000000000 := by decide
      have lw16 : IntKind.i64.wrap 172800000000000 = 172800000000000 := by decide
      have lw17 : IntKind.i64.wrap 259200000000000 = 259200000000000 := by decide
      have lw18 : IntKind.i64.wrap 345600000000000 = 345600000000000 := by decide
      have lt1 : Int.tdiv 1000000000 4 = 250000000 := by decide
      have lt2 : Int.tdiv 2000000000 4 = 500000000 := by decide
      have lt3 : Int.tdiv 3000000000 4 = 750000000 := by decide
      have lt4 : Int.tdiv 4000000000 4 = 1000000000 := by decide
      have lt5 : Int.tdiv 86400000000000 4 = 21600000000000 := by decide
      have lt6 : Int.tdiv 172800000000000 4 = 43200000000000 := by decide
      have lt7 : Int.tdiv 259200000000000 4 = 64800000000000 := by decide
      have lt8 : Int.tdiv 345600000000000 4 = 86400000000000 := by decide
      have lf0 : IntKind.i64.wrap fr = fr := IntWalk.i64_in _ (by omega)
      have lf1 : IntKind.i64.wrap (fr + 21600000000000) = fr + 21600000000000 := IntWalk.i64_in _ (by omega)
      have lf2 : IntKind.i64.wrap (fr + 43200000000000) = fr + 43200000000000 := IntWalk.i64_in _ (by omega)
      have lf3 : IntKind.i64.wrap (fr + 64800000000000) = fr + 64800000000000 := IntWalk.i64_in _ (by omega)
      have lf4 : IntKind.i64.wrap (fr + 86400000000000) = fr + 86400000000000 := IntWalk.i64_in _ (by omega)
      have WA := Lib.hid (fun w h => within_is (w := w) (g := g) (t := fr - 1) 0 false h ok (df.ahead (fr - 1) (by omega)))
      have WZ := Lib.hid (fun (t : Int) (ht : t = fr + 86399999999999) w h => within_is (w := w) (g := g) (t := t) (jn : Int) true h ok (df.day t (by omega) (by omega)))
      have TB := Lib.hid (fun w h => taken_is (w := w) (g := g) (t := fr) h ok (v := bg) (by rw [instS_id (by omega) (by omega)]; exact hbg))
      clear df hv0 hv1 hv2 hv3 hv4 hbg a0 a1 a2 a3 a4
      go_wp2_with fail
      refine (TB.out _ C.out.2).mono ?_
      rintro e rw0 ⟨rfl, st0⟩
      go_wp2_with fail
      refine wp_loop_rounds 6 ?_
      rw [rounds_succ]
      go_wp2_with fail
      have hq0 : rw0.cell? ⟨b, off + jn * 2 + 1, none⟩ = some (.int .i64 1) := (Stp.trans (Stp.refl [] w2) st0).cell C.out.1 (by simp)
      go_region_held3 (fun w' => w'.cell? ⟨b, off + jn * 2 + 1, none⟩ = some (.int .i64 1)) (first | exact hq0 | exact s9.cell hq0 (by simp) | go_keep)
        ((go_at_call 14; (with_reducible refine (T0.out _ (by first | exact C.out.2.stp st0 | exact C.out.2.stp st0.drew)).mono ?_); rintro e w9 ⟨rfl, s9⟩))
      have u0 : Stp [] w2 w9 := by first | exact st0.trans s9 | exact st0.trans ⟨s9.os, s9.tape, s9.output, s9.size, s9.block⟩
      clear s9 hq0
      go_wp2_with fail
      refine (W0.out _ (C.out.2.stp u0)).mono ?_
      rintro e rw1 ⟨rfl, s9⟩
      have st1 := u0.trans s9
      clear s9 u0 st0
      go_wp2_with fail
      rw [rounds_succ]
      go_wp2_with fail
      have hq1 : rw1.cell? ⟨b, off + jn * 2 + 1, none⟩ = some (.int .i64 1) := (Stp.trans (Stp.refl [] w2) st1).cell C.out.1 (by simp)
      go_region_held3 (fun w' => w'.cell? ⟨b, off + jn * 2 + 1, none⟩ = some (.int .i64 1)) (first | exact hq1 | exact s9.cell hq1 (by simp) | go_keep)
        ((go_at_call 14; (with_reducible refine (T1.out _ (by first | exact C.out.2.stp st1 | exact C.out.2.stp st1.drew)).mono ?_); rintro e w9 ⟨rfl, s9⟩))
      have u1 : Stp [] w2 w9 := by first | exact st1.trans s9 | exact st1.trans ⟨s9.os, s9.tape, s9.output, s9.size, s9.block⟩
      clear s9 hq1
      go_wp2_with fail
      refine (W1.out _ (C.out.2.stp u1)).mono ?_
      rintro e rw2 ⟨rfl, s9⟩
      have st2 := u1.trans s9
      clear s9 u1 st1
      go_wp2_with fail
      rw [rounds_succ]
      go_wp2_with fail
      have hq2 : rw2.cell? ⟨b, off + jn * 2 + 1, none⟩ = some (.int .i64 1) := (Stp.trans (Stp.refl [] w2) st2).cell C.out.1 (by simp)
      go_region_held3 (fun w' => w'.cell? ⟨b, off + jn * 2 + 1, none⟩ = some (.int .i64 1)) (first | exact hq2 | exact s9.cell hq2 (by simp) | go_keep)
        ((go_at_call 14; (with_reducible refine (T2.out _ (by first | exact C.out.2.stp st2 | exact C.out.2.stp st2.drew)).mono ?_); rintro e w9 ⟨rfl, s9⟩))
      have u2 : Stp [] w2 w9 := by first | exact st2.trans s9 | exact st2.trans ⟨s9.os, s9.tape, s9.output, s9.size, s9.block⟩
      clear s9 hq2
      go_wp2_with fail
      refine (W2.out _ (C.out.2.stp u2)).mono ?_
      rintro e rw3 ⟨rfl, s9⟩
      have st3 := u2.trans s9
      clear s9 u2 st2
      go_wp2_with fail
      rw [rounds_succ]
      go_wp2_with fail
      have hq3 : rw3.cell? ⟨b, off + jn * 2 + 1, none⟩ = some (.int .i64 1) := (Stp.trans (Stp.refl [] w2) st3).cell C.out.1 (by simp)
      go_region_held3 (fun w' => w'.cell? ⟨b, off + jn * 2 + 1, none⟩ = some (.int .i64 1)) (first | exact hq3 | exact s9.cell hq3 (by simp) | go_keep)
        ((go_at_call 14; (with_reducible refine (T3.out _ (by first | exact C.out.2.stp st3 | exact C.out.2.stp st3.drew)).mono ?_); rintro e w9 ⟨rfl, s9⟩))
      have u3 : Stp [] w2 w9 := by first | exact st3.trans s9 | exact st3.trans ⟨s9.os, s9.tape, s9.output, s9.size, s9.block⟩
      clear s9 hq3
      go_wp2_with fail
      refine (W3.out _ (C.out.2.stp u3)).mono ?_
      rintro e rw4 ⟨rfl, s9⟩
      have st4 := u3.trans s9
      clear s9 u3 st3
      go_wp2_with fail
      rw [rounds_succ]
      go_wp2_with fail
      have hq4 : rw4.cell? ⟨b, off + jn * 2 + 1, none⟩ = some (.int .i64 1) := (Stp.trans (Stp.refl [] w2) st4).cell C.out.1 (by simp)
      go_region_held3 (fun w' => w'.cell? ⟨b, off + jn * 2 + 1, none⟩ = some (.int .i64 1)) (first | exact hq4 | exact s9.cell hq4 (by simp) | go_keep)
        ((go_at_call 14; (with_reducible refine (T4.out _ (by first | exact C.out.2.stp st4 | exact C.out.2.stp st4.drew)).mono ?_); rintro e w9 ⟨rfl, s9⟩))
      have u4 : Stp [] w2 w9 := by first | exact st4.trans s9 | exact st4.trans ⟨s9.os, s9.tape, s9.output, s9.size, s9.block⟩
      clear s9 hq4
      go_wp2_with fail
      refine (W4.out _ (C.out.2.stp u4)).mono ?_
      rintro e rw5 ⟨rfl, s9⟩
      have st5 := u4.trans s9
      clear s9 u4 st4
      go_wp2_with fail
      rw [rounds_succ]
      go_wp2_with fail
      refine (WA.out _ (C.out.2.stp st5)).mono ?_
      rintro e w6 ⟨rfl, s6⟩
      go_wp2_with fail
      refine (WZ.out _ (by first | omega | (rw [IntWalk.i64_in _ (by omega)]; omega)) _ ((C.out.2.stp st5).stp s6)).mono ?_
      rintro e w7 ⟨rfl, s7⟩
      go_wp2_with fail
      go_ret
      exact ⟨rfl, ((Z.out.trans st5).trans s6).trans s7⟩
    · have C := Lib.hid (And.intro hc2 tab2)
      clear tab2
      obtain ⟨v0, hv0⟩ : ∃ v, takenS fr M = v := ⟨_, rfl⟩
      have a0 : v0 = bg + 0 := by
        rw [← hv0, df.taken fr (by omega) (by omega), hbg]
        omega
      have T0 := Lib.hid (fun w h => taken_is (w := w) (g := g) (t := fr) h ok (v := v0) (by rw [instS_id (by omega) (by omega)]; exact hv0))
      have W0 := Lib.hid (fun w h => within_is (w := w) (g := g) (t := fr) ((jn : Int)) (true) h ok (df.day fr (by omega) (by omega)))
      have b0 : IntKind.i64.wrap (v0 - bg) = 0 := by rw [a0]; rw [show bg + 0 - bg = 0 by omega]; rfl
      obtain ⟨v1, hv1⟩ : ∃ v, takenS (fr + 21600000000000) M = v := ⟨_, rfl⟩
      have a1 : v1 = bg + (-250000000) := by
        rw [← hv1, df.taken (fr + 21600000000000) (by omega) (by omega), hbg]
        omega
      have T1 := Lib.hid (fun w h => taken_is (w := w) (g := g) (t := (fr + 21600000000000)) h ok (v := v1) (by rw [instS_id (by omega) (by omega)]; exact hv1))
      have W1 := Lib.hid (fun w h => within_is (w := w) (g := g) (t := (fr + 21600000000000)) ((jn : Int)) (true) h ok (df.day (fr + 21600000000000) (by omega) (by omega)))
      have b1 : IntKind.i64.wrap (v1 - bg) = (-250000000) := by rw [a1]; rw [show bg + (-250000000) - bg = (-250000000) by omega]; rfl
      obtain ⟨v2, hv2⟩ : ∃ v, takenS (fr + 43200000000000) M = v := ⟨_, rfl⟩
      have a2 : v2 = bg + (-500000000) := by
        rw [← hv2, df.taken (fr + 43200000000000) (by omega) (by omega), hbg]
        omega
      have T2 := Lib.hid (fun w h => taken_is (w := w) (g := g) (t := (fr + 43200000000000)) h ok (v := v2) (by rw [instS_id (by omega) (by omega)]; exact hv2))
      have W2 := Lib.hid (fun w h => within_is (w := w) (g := g) (t := (fr + 43200000000000)) ((jn : Int)) (true) h ok (df.day (fr + 43200000000000) (by omega) (by omega)))
      have b2 : IntKind.i64.wrap (v2 - bg) = (-500000000) := by rw [a2]; rw [show bg + (-500000000) - bg = (-500000000) by omega]; rfl
      obtain ⟨v3, hv3⟩ : ∃ v, takenS (fr + 64800000000000) M = v := ⟨_, rfl⟩
      have a3 : v3 = bg + (-750000000) := by
        rw [← hv3, df.taken (fr + 64800000000000) (by omega) (by omega), hbg]
        omega
      have T3 := Lib.hid (fun w h => taken_is (w := w) (g := g) (t := (fr + 64800000000000)) h ok (v := v3) (by rw [instS_id (by omega) (by omega)]; exact hv3))
      have W3 := Lib.hid (fun w h => within_is (w := w) (g := g) (t := (fr + 64800000000000)) ((jn : Int)) (true) h ok (df.day (fr + 64800000000000) (by omega) (by omega)))
      have b3 : IntKind.i64.wrap (v3 - bg) = (-750000000) := by rw [a3]; rw [show bg + (-750000000) - bg = (-750000000) by omega]; rfl
      obtain ⟨v4, hv4⟩ : ∃ v, takenS (fr + 86400000000000) M = v := ⟨_, rfl⟩
      have a4 : v4 = bg + (-1000000000) := by
        rw [← hv4, df.taken (fr + 86400000000000) (by omega) (by omega), hbg]
        omega
      have T4 := Lib.hid (fun w h => taken_is (w := w) (g := g) (t := (fr + 86400000000000)) h ok (v := v4) (by rw [instS_id (by omega) (by omega)]; exact hv4))
      have W4 := Lib.hid (fun w h => within_is (w := w) (g := g) (t := (fr + 86400000000000)) (0) (false) h ok (df.out_ (fr + 86400000000000) (by omega)))
      have b4 : IntKind.i64.wrap (v4 - bg) = (-1000000000) := by rw [a4]; rw [show bg + (-1000000000) - bg = (-1000000000) by omega]; rfl
      have q0 : v0 - bg = 0 := by omega
      have q1 : v1 - bg = (-250000000) := by omega
      have q2 : v2 - bg = (-500000000) := by omega
      have q3 : v3 - bg = (-750000000) := by omega
      have q4 : v4 - bg = (-1000000000) := by omega
      have lw0 : IntKind.i64.wrap (-4000000000) = (-4000000000) := by decide
      have lw1 : IntKind.i64.wrap (-3000000000) = (-3000000000) := by decide
      have lw2 : IntKind.i64.wrap (-2000000000) = (-2000000000) := by decide
      have lw3 : IntKind.i64.wrap (-1000000000) = (-1000000000) := by decide
      have lw4 : IntKind.i64.wrap (-750000000) = (-750000000) := by decide
      have lw5 : IntKind.i64.wrap (-500000000) = (-500000000) := by decide
      have lw6 : IntKind.i64.wrap (-250000000) = (-250000000) := by decide
      have lw7 : IntKind.i64.wrap (-4) = (-4) := by decide
      have lw8 : IntKind.i64.wrap (-3) = (-3) := by decide
      have lw9 : IntKind.i64.wrap (-2) = (-2) := by decide
      have lw10 : IntKind.i64.wrap (-1) = (-1) := by decide
      have lw11 : IntKind.i64.wrap 0 = 0 := by decide
      have lw12 : IntKind.i64.wrap 21600000000000 = 21600000000000 := by decide
      have lw13 : IntKind.i64.wrap 43200000000000 = 43200000000000 := by decide
      have lw14 : IntKind.i64.wrap 64800000000000 = 64800000000000 := by decide
      have lw15 : IntKind.i64.wrap 86400000000000 = 86400000000000 := by decide
      have lw16 : IntKind.i64.wrap 172800000000000 = 172800000000000 := by decide
      have lw17 : IntKind.i64.wrap 259200000000000 = 259200000000000 := by decide
      have lw18 : IntKind.i64.wrap 345600000000000 = 345600000000000 := by decide
      have lt0 : Int.tdiv (-4000000000) 4 = (-1000000000) := by decide
      have lt1 : Int.tdiv (-3000000000) 4 = (-750000000) := by decide
      have lt2 : Int.tdiv (-2000000000) 4 = (-500000000) := by decide
      have lt3 : Int.tdiv (-1000000000) 4 = (-250000000) := by decide
      have lt5 : Int.tdiv 86400000000000 4 = 21600000000000 := by decide
      have lt6 : Int.tdiv 172800000000000 4 = 43200000000000 := by decide
      have lt7 : Int.tdiv 259200000000000 4 = 64800000000000 := by decide
      have lt8 : Int.tdiv 345600000000000 4 = 86400000000000 := by decide
      have lf0 : IntKind.i64.wrap fr = fr := IntWalk.i64_in _ (by omega)
      have lf1 : IntKind.i64.wrap (fr + 21600000000000) = fr + 21600000000000 := IntWalk.i64_in _ (by omega)
      have lf2 : IntKind.i64.wrap (fr + 43200000000000) = fr + 43200000000000 := IntWalk.i64_in _ (by omega)
      have lf3 : IntKind.i64.wrap (fr + 64800000000000) = fr + 64800000000000 := IntWalk.i64_in _ (by omega)
      have lf4 : IntKind.i64.wrap (fr + 86400000000000) = fr + 86400000000000 := IntWalk.i64_in _ (by omega)
      have WA := Lib.hid (fun w h => within_is (w := w) (g := g) (t := fr - 1) 0 false h ok (df.ahead (fr - 1) (by omega)))
      have WZ := Lib.hid (fun (t : Int) (ht : t = fr + 86399999999999) w h => within_is (w := w) (g := g) (t := t) (jn : Int) true h ok (df.day t (by omega) (by omega)))
      have TB := Lib.hid (fun w h => taken_is (w := w) (g := g) (t := fr) h ok (v := bg) (by rw [instS_id (by omega) (by omega)]; exact hbg))
      clear df hv0 hv1 hv2 hv3 hv4 hbg a0 a1 a2 a3 a4
      go_wp2_with fail
      refine (TB.out _ C.out.2).mono ?_
      rintro e rw0 ⟨rfl, st0⟩
      go_wp2_with fail
      refine wp_loop_rounds 6 ?_
      rw [rounds_succ]
      go_wp2_with fail
      have hq0 : rw0.cell? ⟨b, off + jn * 2 + 1, none⟩ = some (.int .i64 (-1)) := (Stp.trans (Stp.refl [] w2) st0).cell C.out.1 (by simp)
      go_region_held3 (fun w' => w'.cell? ⟨b, off + jn * 2 + 1, none⟩ = some (.int .i64 (-1))) (first | exact hq0 | exact s9.cell hq0 (by simp) | go_keep)
        ((go_at_call 14; (with_reducible refine (T0.out _ (by first | exact C.out.2.stp st0 | exact C.out.2.stp st0.drew)).mono ?_); rintro e w9 ⟨rfl, s9⟩))
      have u0 : Stp [] w2 w9 := by first | exact st0.trans s9 | exact st0.trans ⟨s9.os, s9.tape, s9.output, s9.size, s9.block⟩
      clear s9 hq0
      go_wp2_with fail
      refine (W0.out _ (C.out.2.stp u0)).mono ?_
      rintro e rw1 ⟨rfl, s9⟩
      have st1 := u0.trans s9
      clear s9 u0 st0
      go_wp2_with fail
      rw [rounds_succ]
      go_wp2_with fail
      have hq1 : rw1.cell? ⟨b, off + jn * 2 + 1, none⟩ = some (.int .i64 (-1)) := (Stp.trans (Stp.refl [] w2) st1).cell C.out.1 (by simp)
      go_region_held3 (fun w' => w'.cell? ⟨b, off + jn * 2 + 1, none⟩ = some (.int .i64 (-1))) (first | exact hq1 | exact s9.cell hq1 (by simp) | go_keep)
        ((go_at_call 14; (with_reducible refine (T1.out _ (by first | exact C.out.2.stp st1 | exact C.out.2.stp st1.drew)).mono ?_); rintro e w9 ⟨rfl, s9⟩))
      have u1 : Stp [] w2 w9 := by first | exact st1.trans s9 | exact st1.trans ⟨s9.os, s9.tape, s9.output, s9.size, s9.block⟩
      clear s9 hq1
      go_wp2_with fail
      refine (W1.out _ (C.out.2.stp u1)).mono ?_
      rintro e rw2 ⟨rfl, s9⟩
      have st2 := u1.trans s9
      clear s9 u1 st1
      go_wp2_with fail
      rw [rounds_succ]
      go_wp2_with fail
      have hq2 : rw2.cell? ⟨b, off + jn * 2 + 1, none⟩ = some (.int .i64 (-1)) := (Stp.trans (Stp.refl [] w2) st2).cell C.out.1 (by simp)
      go_region_held3 (fun w' => w'.cell? ⟨b, off + jn * 2 + 1, none⟩ = some (.int .i64 (-1))) (first | exact hq2 | exact s9.cell hq2 (by simp) | go_keep)
        ((go_at_call 14; (with_reducible refine (T2.out _ (by first | exact C.out.2.stp st2 | exact C.out.2.stp st2.drew)).mono ?_); rintro e w9 ⟨rfl, s9⟩))
      have u2 : Stp [] w2 w9 := by first | exact st2.trans s9 | exact st2.trans ⟨s9.os, s9.tape, s9.output, s9.size, s9.block⟩
      clear s9 hq2
      go_wp2_with fail
      refine (W2.out _ (C.out.2.stp u2)).mono ?_
      rintro e rw3 ⟨rfl, s9⟩
      have st3 := u2.trans s9
      clear s9 u2 st2
      go_wp2_with fail
      rw [rounds_succ]
      go_wp2_with fail
      have hq3 : rw3.cell? ⟨b, off + jn * 2 + 1, none⟩ = some (.int .i64 (-1)) := (Stp.trans (Stp.refl [] w2) st3).cell C.out.1 (by simp)
      go_region_held3 (fun w' => w'.cell? ⟨b, off + jn * 2 + 1, none⟩ = some (.int .i64 (-1))) (first | exact hq3 | exact s9.cell hq3 (by simp) | go_keep)
        ((go_at_call 14; (with_reducible refine (T3.out _ (by first | exact C.out.2.stp st3 | exact C.out.2.stp st3.drew)).mono ?_); rintro e w9 ⟨rfl, s9⟩))
      have u3 : Stp [] w2 w9 := by first | exact st3.trans s9 | exact st3.trans ⟨s9.os, s9.tape, s9.output, s9.size, s9.block⟩
      clear s9 hq3
      go_wp2_with fail
      refine (W3.out _ (C.out.2.stp u3)).mono ?_
      rintro e rw4 ⟨rfl, s9⟩
      have st4 := u3.trans s9
      clear s9 u3 st3
      go_wp2_with fail
      rw [rounds_succ]
      go_wp2_with fail
      have hq4 : rw4.cell? ⟨b, off + jn * 2 + 1, none⟩ = some (.int .i64 (-1)) := (Stp.trans (Stp.refl [] w2) st4).cell C.out.1 (by simp)
      go_region_held3 (fun w' => w'.cell? ⟨b, off + jn * 2 + 1, none⟩ = some (.int .i64 (-1))) (first | exact hq4 | exact s9.cell hq4 (by simp) | go_keep)
        ((go_at_call 14; (with_reducible refine (T4.out _ (by first | exact C.out.2.stp st4 | exact C.out.2.stp st4.drew)).mono ?_); rintro e w9 ⟨rfl, s9⟩))
      have u4 : Stp [] w2 w9 := by first | exact st4.trans s9 | exact st4.trans ⟨s9.os, s9.tape, s9.output, s9.size, s9.block⟩
      clear s9 hq4
      go_wp2_with fail
      refine (W4.out _ (C.out.2.stp u4)).mono ?_
      rintro e rw5 ⟨rfl, s9⟩
      have st5 := u4.trans s9
      clear s9 u4 st4
      go_wp2_with fail
      rw [rounds_succ]
      go_wp2_with fail
      refine (WA.out _ (C.out.2.stp st5)).mono ?_
      rintro e w6 ⟨rfl, s6⟩
      go_wp2_with fail
      refine (WZ.out _ (by first | omega | (rw [IntWalk.i64_in _ (by omega)]; omega)) _ ((C.out.2.stp st5).stp s6)).mono ?_
      rintro e w7 ⟨rfl, s7⟩
      go_wp2_with fail
      go_ret
      exact ⟨rfl, ((Z.out.trans st5).trans s6).trans s7⟩
end Go.Proofs.Ytbjjfjgomkmdhaa
