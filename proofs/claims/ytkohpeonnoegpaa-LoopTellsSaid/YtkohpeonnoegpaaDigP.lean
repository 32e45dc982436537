/- The document's numbers: a sum of two numbers with signs. -/
import Derived.Test.YtkohpeonnoegpaaDigN
import Derived.Deep.RegionWith
namespace Go.Proofs.Ytkohpeonnoegpaa
open Go.RowKit
set_option linter.unusedVariables false
set_option linter.unusedSimpArgs false

set_option maxHeartbeats 4000000 in
theorem dPlus_any (m1 m2 : Bool) (A B : Option Addr) (n1 c1 n2 c2 : Nat) (u v : Int) (w : World) (ha : Num w m1 A n1 c1 u) (hb : Num w m2 B n2 c2 v) (hn : n1 ≤ 100) (hm : n2 ≤ 100) :
    Calls Try.prog 53 #[.agg #[.bool m1, .slice A n1 c1], .agg #[.bool m2, .slice B n2 c2]] w (NAns (u + v) w) := by
  obtain ⟨a, h1, h2, h3, h4, h5, h6, h7, h8, h9⟩ := ha.facts
  obtain ⟨b, k1, k2, k3, k4, k5, k6, k7, k8, k9⟩ := hb.facts
  have P := Lib.hid (And.intro h1 (And.intro k1 (And.intro h4 k4)))
  have V := Lib.hid (And.intro h6 (And.intro h7 (And.intro k6 k7)))
  clear ha hb h1 h2 h3 h4 h6 h7 h8 h9 k1 k2 k3 k4 k6 k7 k8 k9
  by_cases hm12 : m1 = m2
  · subst hm12
    have p1 := Lib.hid (fun (w' : World) (hs : Stp [] w w') => dplus_any A B n1 n2 c1 c2 a b w' (P.out.1.stp hs) (P.out.2.1.stp hs) (by omega) (by omega))
    have T1 := Lib.hid (fun (A' : Option Addr) (n' c' : Nat) (l : List Int) (w' : World) (d : DRow w' A' n' l) (hc : n' ≤ c') (hc2 : c' ≤ maxLen) (hd : dval l = dval a + dval b) (hl : l.length ≤ max n1 n2 + 1) =>
      dtrim_num m1 A' n' c' l (u + v) w' d (by have := d.2.1; omega) hc hc2 (by
        cases m1 with
        | true => have := V.out.1 rfl; have := V.out.2.2.1 rfl; simp [sval]; omega
        | false => have := V.out.2.1 rfl; have := V.out.2.2.2 rfl; simp [sval]; omega))
    clear P V
    obtain ⟨W, hW⟩ : ∃ W, ((w.alloc (.cells #[.bool m1, .slice A n1 c1] 61)).alloc (.cells #[.bool m1, .slice B n2 c2] 61)).alloc (.cells #[.bool false, .slice none 0 0] 61) = W := ⟨_, rfl⟩
    obtain ⟨q1, q2, q3, st⟩ := big_three w _ _ _ _ _ _ W hW
    have S3 := Lib.hid st
    have Q3 := Lib.hid q3
    have C := Lib.hid (fun (w' : World) (hs : Stp [] W w') => (show w'.cell? ⟨w.heap.size, 0, none⟩ = some (.bool m1) ∧ w'.cell? ⟨w.heap.size, 1, none⟩ = some (.slice A n1 c1) ∧ w'.cell? ⟨w.heap.size + 1, 0, none⟩ = some (.bool m1) ∧ w'.cell? ⟨w.heap.size + 1, 1, none⟩ = some (.slice B n2 c2) ∧ w'.cell? ⟨w.heap.size + 1 + 1, 0, none⟩ = some (.bool false) ∧ w'.cell? ⟨w.heap.size + 1 + 1, 1, none⟩ = some (.slice none 0 0) ∧ w'.frozen? ⟨w.heap.size + 1 + 1, 0, none⟩ = false ∧ w'.frozen? ⟨w.heap.size + 1 + 1, 1, none⟩ = false from
      ⟨(big_cells (q1.stp hs)).1, (big_cells (q1.stp hs)).2.1, (big_cells (q2.stp hs)).1, (big_cells (q2.stp hs)).2.1, (big_cells (q3.stp hs)).1, (big_cells (q3.stp hs)).2.1, (big_cells (q3.stp hs)).2.2.1, (big_cells (q3.stp hs)).2.2.2⟩))
    obtain ⟨x0, x1, y0, y1, z0, z1, t0, t1⟩ := C.out W (Stp.refl _ _)
    clear q1 q2 q3 st
    go_enter Try.func53, Try.ntmps53
    go_wp2_with fail
    try rw [hW]
    clear hW
    go_region_with (first
      | (go_at_call 61; refine (p1.out _ (by first | exact S3.out | exact S3.out.drew | exact S3.out.drew.drew)).mono ?_; rintro e w1 ⟨A1, n', c', l, rfl, d1, e1, e2, ⟨e3, e4⟩, s1⟩; obtain ⟨x0, x1, y0, y1, z0, z1, t0, t1⟩ := C.out w1 (by first | exact s1 | exact (show Stp [] W w1 from ⟨s1.os, s1.tape, s1.output, s1.size, s1.block⟩)))
      | (go_at_call 64; refine (T1.out _ _ _ _ _ (by first | exact d1 | exact d1.stp (Stp.refl [] w1).drew) e1 e2 e3 e4).mono ?_; rintro e w2 ⟨mi, A2, n2', c2', rfl, d2, s2⟩; obtain ⟨x0, x1, y0, y1, z0, z1, t0, t1⟩ := C.out w2 ((show Stp [] W w1 from ⟨s1.os, s1.tape, s1.output, s1.size, s1.block⟩).trans (show Stp [] w1 w2 from ⟨s2.os, s2.tape, s2.output, s2.size, s2.block⟩))))
    all_goals
      have sW : Stp [] W w2 := (show Stp [] W w1 from ⟨s1.os, s1.tape, s1.output, s1.size, s1.block⟩).trans (show Stp [] w1 w2 from ⟨s2.os, s2.tape, s2.output, s2.size, s2.block⟩)
      have qb := Q3.out.stp sW
      have sf : Stp [w.heap.size + 1 + 1] w2 ((w2.setCell ⟨w.heap.size + 1 + 1, 0, none⟩ (.bool mi)).setCell ⟨w.heap.size + 1 + 1, 1, none⟩ (.slice A2 n2' c2')) := ((Stp.refl _ w2).setCell (p := ⟨w.heap.size + 1 + 1, 0, none⟩) (.inl (by simp)) (.bool mi)).setCell (p := ⟨w.heap.size + 1 + 1, 1, none⟩) (.inl (by simp)) (.slice A2 n2' c2')
      have d3 := Lib.hid (d2.far qb sf)
      have z3 := Lib.hid ((S3.out.trans sW).far sf (.inr (by first | omega | (simp; omega))))
      obtain ⟨r0, r1, _, _⟩ := big_cells (big_set qb (.bool mi) (.slice A2 n2' c2'))
      clear x0 x1 y0 y1 z0 z1 t0 t1 sW qb sf d1 d2 s1 s2 p1 T1 C S3 Q3
      go_wp2_with fail
      refine bodyPost_ret (v := .agg #[.bool mi, .slice A2 n2' c2']) ?_ rfl ⟨mi, A2, n2', c2', rfl, d3.out, z3.out⟩
      simp [results, Try.results53, go_sem, r0, r1]
  · by_cases hlt : dval a < dval b
    · have p1 := Lib.hid (fun (w' : World) (hs : Stp [] w w') => dless_any B A n2 n1 c2 c1 b a w' (P.out.2.1.stp hs) (P.out.1.stp hs) (by omega) (by omega))
      have T1 := Lib.hid (fun (A' : Option Addr) (n' c' : Nat) (l : List Int) (w' : World) (d : DRow w' A' n' l) (hc : n' ≤ c') (hc2 : c' ≤ maxLen) (hd : dval l = dval b - dval a) (hl : l.length = n2) =>
        dtrim_num m2 A' n' c' l (u + v) w' d (by have := d.2.1; omega) hc hc2 (by
          cases m1 <;> cases m2 <;> simp at hm12
          · have := V.out.2.1 rfl; have := V.out.2.2.1 rfl; simp [sval]; omega
          · have := V.out.1 rfl; have := V.out.2.2.2 rfl; simp [sval]; omega))
      have L1 := Lib.hid (fun (w' : World) (hs : Stp [] w w') => dLess_any A B n1 n2 c1 c2 a b w' (P.out.1.stp hs) (P.out.2.1.stp hs) P.out.2.2.1 P.out.2.2.2 (by omega) (by omega))
      rw [decide_eq_true hlt] at L1
      have hne : (m1 == m2) = false := by simp [hm12]
      clear P V hlt
      obtain ⟨W, hW⟩ : ∃ W, ((w.alloc (.cells #[.bool m1, .slice A n1 c1] 61)).alloc (.cells #[.bool m2, .slice B n2 c2] 61)).alloc (.cells #[.bool false, .slice none 0 0] 61) = W := ⟨_, rfl⟩
      obtain ⟨q1, q2, q3, st⟩ := big_three w _ _ _ _ _ _ W hW
      have S3 := Lib.hid st
      have Q3 := Lib.hid q3
      have C := Lib.hid (fun (w' : World) (hs : Stp [] W w') => (show w'.cell? ⟨w.heap.size, 0, none⟩ = some (.bool m1) ∧ w'.cell? ⟨w.heap.size, 1, none⟩ = some (.slice A n1 c1) ∧ w'.cell? ⟨w.heap.size + 1, 0, none⟩ = some (.bool m2) ∧ w'.cell? ⟨w.heap.size + 1, 1, none⟩ = some (.slice B n2 c2) ∧ w'.cell? ⟨w.heap.size + 1 + 1, 0, none⟩ = some (.bool false) ∧ w'.cell? ⟨w.heap.size + 1 + 1, 1, none⟩ = some (.slice none 0 0) ∧ w'.frozen? ⟨w.heap.size + 1 + 1, 0, none⟩ = false ∧ w'.frozen? ⟨w.heap.size + 1 + 1, 1, none⟩ = false from
        ⟨(big_cells (q1.stp hs)).1, (big_cells (q1.stp hs)).2.1, (big_cells (q2.stp hs)).1, (big_cells (q2.stp hs)).2.1, (big_cells (q3.stp hs)).1, (big_cells (q3.stp hs)).2.1, (big_cells (q3.stp hs)).2.2.1, (big_cells (q3.stp hs)).2.2.2⟩))
      obtain ⟨x0, x1, y0, y1, z0, z1, t0, t1⟩ := C.out W (Stp.refl _ _)
      clear q1 q2 q3 st
      go_enter Try.func53, Try.ntmps53
      go_wp2_with fail
      try rw [hW]
      clear hW
      refine (L1.out _ S3.out).mono ?_
      rintro e w0 ⟨rfl, hj⟩
      have sj : Stp [] W w0 := by
        obtain ⟨j, rfl⟩ := hj
        exact (Stp.refl _ _).drewN j
      clear hj x0 x1 y0 y1 z0 z1 t0 t1
      obtain ⟨x0, x1, y0, y1, z0, z1, t0, t1⟩ := C.out w0 sj
      have S3 := Lib.hid (S3.out.trans sj)
      have Q3 := Lib.hid (Q3.out.stp sj)
      have C := Lib.hid (fun (w' : World) (hs : Stp [] w0 w') => C.out w' (sj.trans hs))
      clear sj
      go_wp2_with fail
      go_region_with (first
        | (go_at_call 66; refine (p1.out _ (by first | exact S3.out | exact S3.out.drew | exact S3.out.drew.drew)).mono ?_; rintro e w1 ⟨A1, n', c', l, rfl, d1, e1, e2, ⟨e3, e4⟩, s1⟩; obtain ⟨x0, x1, y0, y1, z0, z1, t0, t1⟩ := C.out w1 (by first | exact s1 | exact (show Stp [] w0 w1 from ⟨s1.os, s1.tape, s1.output, s1.size, s1.block⟩)))
        | (go_at_call 64; refine (T1.out _ _ _ _ _ (by first | exact d1 | exact d1.stp (Stp.refl [] w1).drew) e1 e2 e3 e4).mono ?_; rintro e w2 ⟨mi, A2, n2', c2', rfl, d2, s2⟩; obtain ⟨x0, x1, y0, y1, z0, z1, t0, t1⟩ := C.out w2 ((show Stp [] w0 w1 from ⟨s1.os, s1.tape, s1.output, s1.size, s1.block⟩).trans (show Stp [] w1 w2 from ⟨s2.os, s2.tape, s2.output, s2.size, s2.block⟩))))
      all_goals
        have sW : Stp [] w0 w2 := (show Stp [] w0 w1 from ⟨s1.os, s1.tape, s1.output, s1.size, s1.block⟩).trans (show Stp [] w1 w2 from ⟨s2.os, s2.tape, s2.output, s2.size, s2.block⟩)
        have qb := Q3.out.stp sW
        have sf : Stp [w.heap.size + 1 + 1] w2 ((w2.setCell ⟨w.heap.size + 1 + 1, 0, none⟩ (.bool mi)).setCell ⟨w.heap.size + 1 + 1, 1, none⟩ (.slice A2 n2' c2')) := ((Stp.refl _ w2).setCell (p := ⟨w.heap.size + 1 + 1, 0, none⟩) (.inl (by simp)) (.bool mi)).setCell (p := ⟨w.heap.size + 1 + 1, 1, none⟩) (.inl (by simp)) (.slice A2 n2' c2')
        have d3 := Lib.hid (d2.far qb sf)
        have z3 := Lib.hid ((S3.out.trans sW).far sf (.inr (by first | omega | (simp; omega))))
        obtain ⟨r0, r1, _, _⟩ := big_cells (big_set qb (.bool mi) (.slice A2 n2' c2'))
        clear x0 x1 y0 y1 z0 z1 t0 t1 sW qb sf d1 d2 s1 s2 p1 T1 C S3 Q3
        go_wp2_with fail
        refine bodyPost_ret (v := .agg #[.bool mi, .slice A2 n2' c2']) ?_ rfl ⟨mi, A2, n2', c2', rfl, d3.out, z3.out⟩
        simp [results, Try.results53, go_sem, r0, r1]
    · have p1 := Lib.hid (fun (w' : World) (hs : Stp [] w w') => dless_any A B n1 n2 c1 c2 a b w' (P.out.1.stp hs) (P.out.2.1.stp hs) (by omega) (by omega))
      have T1 := Lib.hid (fun (A' : Option Addr) (n' c' : Nat) (l : List Int) (w' : World) (d : DRow w' A' n' l) (hc : n' ≤ c') (hc2 : c' ≤ maxLen) (hd : dval l = dval a - dval b) (hl : l.length = n1) =>
        dtrim_num m1 A' n' c' l (u + v) w' d (by have := d.2.1; omega) hc hc2 (by
          cases m1 <;> cases m2 <;> simp at hm12
          · have := V.out.2.1 rfl; have := V.out.2.2.1 rfl; simp [sval]; omega
          · have := V.out.1 rfl; have := V.out.2.2.2 rfl; simp [sval]; omega))
      have L1 := Lib.hid (fun (w' : World) (hs : Stp [] w w') => dLess_any A B n1 n2 c1 c2 a b w' (P.out.1.stp hs) (P.out.2.1.stp hs) P.out.2.2.1 P.out.2.2.2 (by omega) (by omega))
      rw [decide_eq_false hlt] at L1
      have hne : (m1 == m2) = false := by simp [hm12]
      clear P V hlt
      obtain ⟨W, hW⟩ : ∃ W, ((w.alloc (.cells #[.bool m1, .slice A n1 c1] 61)).alloc (.cells #[.bool m2, .slice B n2 c2] 61)).alloc (.cells #[.bool false, .slice none 0 0] 61) = W := ⟨_, rfl⟩
      obtain ⟨q1, q2, q3, st⟩ := big_three w _ _ _ _ _ _ W hW
      have S3 := Lib.hid st
      have Q3 := Lib.hid q3
      have C := Lib.hid (fun (w' : World) (hs : Stp [] W w') => (show w'.cell? ⟨w.heap.size, 0, none⟩ = some (.bool m1) ∧ w'.cell? ⟨w.heap.size, 1, none⟩ = some (.slice A n1 c1) ∧ w'.cell? ⟨w.heap.size + 1, 0, none⟩ = some (.bool m2) ∧ w'.cell? ⟨w.heap.size + 1, 1, none⟩ = some (.slice B n2 c2) ∧ w'.cell? ⟨w.heap.size + 1 + 1, 0, none⟩ = some (.bool false) ∧ w'.cell? ⟨w.heap.size + 1 + 1, 1, none⟩ = some (.slice none 0 0) ∧ w'.frozen? ⟨w.heap.size + 1 + 1, 0, none⟩ = false ∧ w'.frozen? ⟨w.heap.size + 1 + 1, 1, none⟩ = false from
        ⟨(big_cells (q1.stp hs)).1, (big_cells (q1.stp hs)).2.1, (big_cells (q2.stp hs)).1, (big_cells (q2.stp hs)).2.1, (big_cells (q3.stp hs)).1, (big_cells (q3.stp hs)).2.1, (big_cells (q3.stp hs)).2.2.1, (big_cells (q3.stp hs)).2.2.2⟩))
      obtain ⟨x0, x1, y0, y1, z0, z1, t0, t1⟩ := C.out W (Stp.refl _ _)
      clear q1 q2 q3 st
      go_enter Try.func53, Try.ntmps53
      go_wp2_with fail
      try rw [hW]
      clear hW
      refine (L1.out _ S3.out).mono ?_
      rintro e w0 ⟨rfl, hj⟩
      have sj : Stp [] W w0 := by
        obtain ⟨j, rfl⟩ := hj
        exact (Stp.refl _ _).drewN j
      clear hj x0 x1 y0 y1 z0 z1 t0 t1
      obtain ⟨x0, x1, y0, y1, z0, z1, t0, t1⟩ := C.out w0 sj
      have S3 := Lib.hid (S3.out.trans sj)
      have Q3 := Lib.hid (Q3.out.stp sj)
      have C := Lib.hid (fun (w' : World) (hs : Stp [] w0 w') => C.out w' (sj.trans hs))
      clear sj
      go_wp2_with fail
      go_region_with (first
        | (go_at_call 66; refine (p1.out _ (by first | exact S3.out | exact S3.out.drew | exact S3.out.drew.drew)).mono ?_; rintro e w1 ⟨A1, n', c', l, rfl, d1, e1, e2, ⟨e3, e4⟩, s1⟩; obtain ⟨x0, x1, y0, y1, z0, z1, t0, t1⟩ := C.out w1 (by first | exact s1 | exact (show Stp [] w0 w1 from ⟨s1.os, s1.tape, s1.output, s1.size, s1.block⟩)))
        | (go_at_call 64; refine (T1.out _ _ _ _ _ (by first | exact d1 | exact d1.stp (Stp.refl [] w1).drew) e1 e2 e3 e4).mono ?_; rintro e w2 ⟨mi, A2, n2', c2', rfl, d2, s2⟩; obtain ⟨x0, x1, y0, y1, z0, z1, t0, t1⟩ := C.out w2 ((show Stp [] w0 w1 from ⟨s1.os, s1.tape, s1.output, s1.size, s1.block⟩).trans (show Stp [] w1 w2 from ⟨s2.os, s2.tape, s2.output, s2.size, s2.block⟩))))
      all_goals
        have sW : Stp [] w0 w2 := (show Stp [] w0 w1 from ⟨s1.os, s1.tape, s1.output, s1.size, s1.block⟩).trans (show Stp [] w1 w2 from ⟨s2.os, s2.tape, s2.output, s2.size, s2.block⟩)
        have qb := Q3.out.stp sW
        have sf : Stp [w.heap.size + 1 + 1] w2 ((w2.setCell ⟨w.heap.size + 1 + 1, 0, none⟩ (.bool mi)).setCell ⟨w.heap.size + 1 + 1, 1, none⟩ (.slice A2 n2' c2')) := ((Stp.refl _ w2).setCell (p := ⟨w.heap.size + 1 + 1, 0, none⟩) (.inl (by simp)) (.bool mi)).setCell (p := ⟨w.heap.size + 1 + 1, 1, none⟩) (.inl (by simp)) (.slice A2 n2' c2')
        have d3 := Lib.hid (d2.far qb sf)
        have z3 := Lib.hid ((S3.out.trans sW).far sf (.inr (by first | omega | (simp; omega))))
        obtain ⟨r0, r1, _, _⟩ := big_cells (big_set qb (.bool mi) (.slice A2 n2' c2'))
        clear x0 x1 y0 y1 z0 z1 t0 t1 sW qb sf d1 d2 s1 s2 p1 T1 C S3 Q3
        go_wp2_with fail
        refine bodyPost_ret (v := .agg #[.bool mi, .slice A2 n2' c2']) ?_ rfl ⟨mi, A2, n2', c2', rfl, d3.out, z3.out⟩
        simp [results, Try.results53, go_sem, r0, r1]
end Go.Proofs.Ytkohpeonnoegpaa
