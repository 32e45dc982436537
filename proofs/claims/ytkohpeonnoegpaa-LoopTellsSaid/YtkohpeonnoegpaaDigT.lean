/- The document's numbers: a product of two numbers with signs. -/
import Derived.Test.YtkohpeonnoegpaaDigI
import Derived.Laws.MakeOwn
import Derived.Laws.Entries
namespace Go.Proofs.Ytkohpeonnoegpaa
open Go.RowKit
set_option linter.unusedVariables false
set_option linter.unusedSimpArgs false

theorem zeros_list (k : Nat) : (madeCells #[Value.int .u32 0] k).toList = (List.replicate k (0 : Int)).map (Value.int .u32) := by
  refine List.ext_getElem? fun i => ?_
  by_cases h : i < k
  · simp [madeCells, h, Nat.mod_one]
  · simp [madeCells, h]
theorem make_zeros {W : World} (k : Nat) (hk : k ≤ 1000) : (W.alloc (.cells (madeCells #[.int .u32 0] k) 77)).ownsRow W.heap.size 77 1 (.slice (some ⟨W.heap.size, 0, none⟩) k k) k ((List.replicate k (0 : Int)).map (Value.int .u32)) := by
  refine ⟨by simp, .inr ⟨W.heap.size, k, madeCells #[.int .u32 0] k, rfl, Nat.le_refl _, heap_alloc_new W _, Nat.le_refl _, by unfold maxLen; omega, by simp [size_madeCells], ?_⟩⟩
  rw [zeros_list, Nat.mul_one, List.take_of_length_le (by simp)]
theorem run_make_u32 (i : TypeInfo) (hi : Try.prog.info? 77 = some i) (hz : i.zero = some (.int .u32 0)) (h1 : i.size = 1) (h2 : i.bytes = 4) (k : Nat) (hk : k ≤ 1000) (w : World) :
    (Instr.makeSlice 59 (.int .i64 (k : Int)) (.int .i64 (k : Int))).run Try.prog w = .ok (.slice (some ⟨w.heap.size, 0, none⟩) k k) (w.alloc (.cells (madeCells #[.int .u32 0] k) 77)) := by
  have hr := run_make (P := Try.prog) w 59 77 i _ Try.underlying59 hi hz .i64 .i64 k k (by omega) (by omega) (by rw [h2]; omega) (by omega)
  simp only [Int.toNat_natCast, h1, Nat.mul_one] at hr
  exact hr
theorem big_four (w : World) (x1 y1 x2 y2 x3 y3 x4 y4 : Value) : ∀ W, (((w.alloc (.cells #[x1, y1] 61)).alloc (.cells #[x2, y2] 61)).alloc (.cells #[x3, y3] 61)).alloc (.cells #[x4, y4] 61) = W →
    Blk W w.heap.size 61 #[x1, y1] ∧ Blk W (w.heap.size + 1) 61 #[x2, y2] ∧ Blk W (w.heap.size + 1 + 1) 61 #[x3, y3] ∧ Blk W (w.heap.size + 1 + 1 + 1) 61 #[x4, y4] ∧ Stp [] w W := by
  rintro W rfl
  obtain ⟨q1, q2, q3, st⟩ := big_three w x1 y1 x2 y2 x3 y3 _ rfl
  have q4 := Blk.new (((w.alloc (.cells #[x1, y1] 61)).alloc (.cells #[x2, y2] 61)).alloc (.cells #[x3, y3] 61)) 61 #[x4, y4]
  simp only [World.size_alloc] at q4
  exact ⟨q1.alloc _, q2.alloc _, q3.alloc _, q4, st.alloc _⟩
/-- What the rounds of a product hold on to. -/
def TimesAt (w : World) (A B : Option Addr) (n1 c1 n2 c2 : Nat) (m1 m2 : Bool) (a b : List Int) (k : Nat) (O : Option Addr) (no co : Nat) (lo : List Int) (wr : World) : Prop :=
  Blk wr w.heap.size 61 #[.bool m1, .slice A n1 c1] ∧ Blk wr (w.heap.size + 1) 61 #[.bool m2, .slice B n2 c2] ∧ Blk wr (w.heap.size + 1 + 1) 61 #[.bool false, .slice none 0 0] ∧ Blk wr (w.heap.size + 1 + 1 + 1) 61 #[.bool false, .slice O no co] ∧
  DRow wr O no lo ∧ no ≤ co ∧ co ≤ maxLen ∧ no ≤ 50 + k ∧ dval lo = dval (a.take k) * dval b ∧ Stp [] w wr

set_option maxRecDepth 100000 in
set_option maxHeartbeats 4000000 in
theorem dTimes_any (m1 m2 : Bool) (A B : Option Addr) (n1 c1 n2 c2 : Nat) (u v : Int) (w : World) (ha : Num w m1 A n1 c1 u) (hb : Num w m2 B n2 c2 v) (hn : n1 ≤ 20) (hm : n2 ≤ 20) :
    Calls Try.prog 51 #[.agg #[.bool m1, .slice A n1 c1], .agg #[.bool m2, .slice B n2 c2]] w (NAns (u * v) w) := by
  obtain ⟨i0, hi, hz0, hz1, hz2⟩ := info_parts u32_info
  obtain ⟨a, h1, h2, h3, h4, h5, h6, h7, h8, h9⟩ := ha.facts
  obtain ⟨b, k1, k2, k3, k4, k5, k6, k7, k8, k9⟩ := hb.facts
  have P := Lib.hid (And.intro h1 (And.intro k1 (And.intro h1.2.1 k1.2.1)))
  have V := Lib.hid (And.intro h6 (And.intro h7 (And.intro k6 k7)))
  clear ha hb h1 h2 h3 h4 h5 h6 h7 h8 h9 k1 k2 k3 k4 k5 k6 k7 k8 k9
  go_enter Try.func51, Try.ntmps51
  go_wp2_with fail
  have Q0 := Lib.hid (big_four w (.bool m1) (.slice A n1 c1) (.bool m2) (.slice B n2 c2) (.bool false) (.slice none 0 0) (.bool false) (.slice none 0 0) _ rfl)
  go_loopw [6] (fun i wr => ∃ (k : Nat) (O : Option Addr) (no co : Nat) (lo : List Int), k ≤ n1 ∧ i = .int .i64 k ∧ Hid (TimesAt w A B n1 c1 n2 c2 m1 m2 a b k O no co lo wr)) (fun i _ => n1 - (intOf i).toNat)
  case atStart => exact ⟨0, none, 0, 0, [], by omega, rfl, (by exact ⟨Q0.out.1, Q0.out.2.1, Q0.out.2.2.1, Q0.out.2.2.2.1, DRow.nil _ _, by omega, by unfold maxLen; omega, by omega, by simp [dval], Q0.out.2.2.2.2⟩)⟩
  case round =>
    obtain ⟨k, O, no, co, lo, hk, rfl, H⟩ := hrel
    clear Q0
    obtain ⟨x0, x1, xf0, xf1⟩ := big_cells H.out.1
    obtain ⟨y0, y1, yf0, yf1⟩ := big_cells H.out.2.1
    obtain ⟨o0, o1, of0, of1⟩ := big_cells H.out.2.2.2.1
    obtain ⟨r0, r1, rf0, rf1⟩ := big_cells H.out.2.2.1
    by_cases hlt : k < n1
    · have hmk := fun w => run_make_u32 i0 hi hz0 hz1 hz2 k (by omega) w
      have hka : k < a.length := by have := P.out.2.2.1; omega
      have hx := getD_in hka
      have xb := P.out.1.2.2.getD k
      obtain ⟨b1, o1, rfl, hc1⟩ := (P.out.1.stp H.out.2.2.2.2.2.2.2.2.2).cell hlt
      obtain ⟨x, hxx⟩ : ∃ x, a.getD k 0 = x := ⟨_, rfl⟩
      rw [hxx] at hx xb hc1
      have TR := Lib.hid (fun (r : List Int) (h : dval r = x * dval b) => times_row hka (r := r) (by rw [← hx]; exact h))
      have DB := Lib.hid ((P.out.2.1.stp H.out.2.2.2.2.2.2.2.2.2))
      obtain ⟨xb0, xb1⟩ := xb
      have lb := P.out.2.2.2
      clear hxx hx
      obtain ⟨wo, hwo⟩ : ∃ wo, wo = wr := ⟨_, rfl⟩
      subst hwo
      go_wp2_with fail
      go_loopw [7, 8, 9] (fun v c i wi => ∃ (j : Nat) (q : Int) (r : List Int), j ≤ n2 + 1 ∧ i = .int .i64 j ∧ c = .int .u64 q ∧ (0 ≤ q ∧ q ≤ 65535) ∧ (q = 0 ∨ j ≤ n2) ∧ r.length = j ∧ Hid (wi.ownsRow wo.heap.size 77 1 v (k + j) ((List.replicate k (0 : Int) ++ r).map (Value.int .u32)) ∧ Dg r ∧ dval r + p65 j * (x * dval (b.drop j) + q) = x * dval b ∧ Stp [] wo wi)) (fun _ _ i _ => n2 + 1 - (intOf i).toNat)
      case atStart => exact ⟨0, 0, [], by omega, rfl, rfl, by decide, .inl rfl, rfl, (by exact ⟨by rw [List.append_nil]; exact make_zeros k (by omega), Dg.nil, by simp [dval, p65_zero], (Stp.refl [] wo).alloc _⟩)⟩
      case round =>
        obtain ⟨j, q, r, hj, rfl, rfl, ⟨q0, q1⟩, hq, hr, HI⟩ := hrel
        have tI := HI.out.2.2.2
        have x1' := tI.cell x1 (by simp)
        have y1' := tI.cell y1 (by simp)
        have hc1' := tI.cell hc1 (by simp)
        have A0 := dat_any B n2 c2 b j wr (DB.out.stp tI)
        have An := fun m => dat_any B n2 c2 b j (wr.drewN m) (DB.out.stp (tI.drewN m))
        have hy := DB.out.2.2.getD j
        have hyz : ¬ j < n2 → b.getD j 0 = 0 := fun h => getD_out (by omega)
        have PR := Lib.hid (fun (n : Int) (hn : n = x * b.getD j 0 + q) => times_round (b := b) (x := x) (c := q) hr hn)
        generalize b.getD j 0 = y at *
        obtain ⟨yb0, yb1⟩ := hy
        by_cases hst : j < n2 ∨ 0 < q
        · have hj2 : j ≤ n2 := by omega
          have hmul : 0 ≤ x * y ∧ x * y ≤ 65535 * 65535 := ⟨Int.mul_nonneg xb0 yb0, Int.mul_le_mul (by omega) (by omega) yb0 (by decide)⟩
          have hz0 : ¬ j < n2 → x * y = 0 := fun h => by rw [hyz h, Int.mul_zero]
          obtain ⟨m, hm'⟩ : ∃ m, x * y = m := ⟨_, rfl⟩
          rw [hm'] at hmul hz0 PR
          obtain ⟨mb0, mb1⟩ := hmul
          have wm : IntKind.u64.wrap (m + q) = m + q := by rw [IntKind.wrap_u64]; omega
          have hq1 : (m + q) / 65536 = 0 ∨ j < n2 := by
            by_cases h : j < n2
            · exact .inr h
            · have := hz0 h; omega
          have HK := Lib.hid (And.intro hj2 hq1)
          have hj3 : j ≤ 40 := by omega
          have hcs : j < n2 ∨ ¬ j < n2 ∧ 0 < q := by omega
          clear hst hj2 hq1 hyz hq hj hz0
          rcases hcs with g1 | ⟨g1, g2⟩
          all_goals
            go_wp2_with (first
              | (at_builtin; refine wpList_append_own _ rfl _ _ 59 rfl wo.heap.size 77 i0 (.int .u32 0) 1 4 Try.underlying59 hi hz0 hz1 hz2 rfl (by decide) _ _ _ rfl ((own_drewN HI.out.1 _).alloc _) ⟨wr.heap.size, 0, none⟩ 1 1 [.int .u32 ((m + q) % 65536)] rfl rfl (by intro j u hj; match j, hj with | 0, hj => (simp at hj; subst hj; exact (Blk.new (wr.drewN _) 77 #[.int .u32 ((m + q) % 65536)]).cell 0)) (by intro u hu; simp at hu; subst hu; rfl) (by unfold maxLen; omega) (by omega) (by have := HI.out.2.2.2.size; (try simp); omega) ?_)
              | (go_quiet (first | (go_at_call 63; with_reducible exact Calls.quiet_of_same A0) | (go_at_call 63; with_reducible exact quiet_add_same (An _)) | (go_at_call 63; with_reducible exact Calls.quiet_of_same (An _)))))
            intro v' w2 hown' hgrow _
            have R := Lib.hid (And.intro (show w2.ownsRow wo.heap.size 77 1 v' (k + (j + 1)) ((List.replicate k (0 : Int) ++ (r ++ [(m + q) % 65536])).map (Value.int .u32)) by
              simp only [List.map_append, List.map_replicate, List.map_cons, List.map_nil]
              exact hown') (show Stp [] wo w2 from ((HI.out.2.2.2.drewN _).alloc _).grown hgrow (fun k hk => .inr (dig_base HI.out.1 hk))))
            have R2 := Lib.hid (And.intro HI.out.2.1 (HI.out.2.2.1.symm.trans (PR.out _ rfl).symm))
            clear hown' hgrow HI PR A0 An x1' y1' hc1' tI
            go_wp2_with fail
            go_roundw
            case rel =>
              have k1 := HK.out.1
              have k2 := HK.out.2
              exact ⟨j + 1, _, r ++ [(m + q) % 65536], by omega, by go_num, rfl, by omega, by omega, by simp; omega, (by exact ⟨R.out.1, R2.out.1.snoc (by omega) (by omega), R2.out.2.symm, R.out.2⟩)⟩
            case measure => have := HK.out.1; simp [intOf]; omega
        · have hc2 : ¬ j < n2 := fun h => hst (.inl h)
          obtain rfl : q = 0 := by omega
          have hv := HI.out.2.2.1
          rw [dval_end (by omega), Int.mul_zero, Int.add_zero, Int.mul_zero, Int.add_zero] at hv
          have hown := HI.out.1
          obtain ⟨A2, c2', rfl, e1, e2, e3⟩ := own_form (G := []) hown (by simp)
          have dr : DRow wr A2 (k + j) (List.replicate k (0 : Int) ++ r) := ⟨e3, by simp; omega, (Dg.zeros k).append HI.out.2.1⟩
          have dlo := H.out.2.2.2.2.1.stp tI
          have hlo := H.out.2.2.2.2.2.2.2.2.1
          have hno := H.out.2.2.2.2.2.2.2.1
          have PL := Lib.hid (dplus_any O A2 no (k + j) co c2' lo (List.replicate k (0 : Int) ++ r) wr dlo dr (by omega) (by omega))
          have E := Lib.hid (show dval lo + dval (List.replicate k (0 : Int) ++ r) = dval (a.take (k + 1)) * dval b by rw [hlo]; exact TR.out r hv)
          have q1 := H.out.1.stp tI
          have q2 := H.out.2.1.stp tI
          have q3 := H.out.2.2.1.stp tI
          have q4 := H.out.2.2.2.1.stp tI
          have st := H.out.2.2.2.2.2.2.2.2.2.trans tI
          have QQ := Lib.hid (And.intro q1 (And.intro q2 (And.intro q3 (And.intro q4 st))))
          obtain ⟨z0, z1, zf0, zf1⟩ := big_cells q4
          clear q1 q2 q3 q4 st hown HI hv e1 e2 e3 dr dlo hlo A0 An PR hyz hq hst TR hc1' H x0 x1 y0 y1 o0 o1 r0 r1 xf0 xf1 yf0 yf1 of0 of1 rf0 rf1 hc1
          go_wp2_with fail
          refine PL.out.mono ?_
          rintro e w3 ⟨A3, n3, c3, l3, rfl, d3, e1, e2, ⟨e3, e4⟩, s3⟩
          have q4 := QQ.out.2.2.2.1.stp s3
          obtain ⟨z0', z1', zf0', zf1'⟩ := big_cells q4
          have sf : Stp [w.heap.size + 1 + 1 + 1] w3 (w3.setCell ⟨w.heap.size + 1 + 1 + 1, 1, none⟩ (.slice A3 n3 c3)) := (Stp.refl _ w3).setCell (p := ⟨w.heap.size + 1 + 1 + 1, 1, none⟩) (.inl (by simp)) _
          have T : Hid (TimesAt w (some ⟨b1, _, none⟩) B n1 c1 n2 c2 m1 m2 a b (k + 1) A3 n3 c3 l3 (w3.setCell ⟨w.heap.size + 1 + 1 + 1, 1, none⟩ (.slice A3 n3 c3))) :=
            ⟨(QQ.out.1.stp s3).far (by simp; omega) _, (QQ.out.2.1.stp s3).far (by simp) _, (QQ.out.2.2.1.stp s3).far (by simp) _, q4.set_ 1 _, d3.far q4 sf, e1, e2, by have := d3.2.1; omega, by rw [e3]; exact E.out, (QQ.out.2.2.2.2.trans s3).far sf (.inr (by omega))⟩
          clear QQ sf q4 d3 e3 e4 s3 E PL
          go_wp2_with fail
          go_roundw
          case rel => exact ⟨k + 1, A3, n3, c3, l3, by omega, by go_num, T⟩
          case measure => simp [intOf]; omega
    · obtain rfl : k = n1 := by omega
      have hv : sval (!(m1 == m2)) lo = u * v := by
        have h1 := H.out.2.2.2.2.2.2.2.2.1
        rw [List.take_of_length_le (by have := P.out.2.2.1; omega)] at h1
        obtain ⟨v1, v2, v3, v4⟩ := V.out
        cases m1 with
        | true =>
          rw [(v1 rfl).1]
          cases m2 with
          | true => rw [(v3 rfl).1, Int.neg_mul_neg]; simpa [sval] using h1
          | false => rw [v4 rfl, Int.neg_mul]; simpa [sval] using h1
        | false =>
          rw [v2 rfl]
          cases m2 with
          | true => rw [(v3 rfl).1, Int.mul_neg]; simpa [sval] using h1
          | false => rw [v4 rfl]; simpa [sval] using h1
      have hno := H.out.2.2.2.2.2.2.2.1
      have sf : Stp [w.heap.size + 1 + 1 + 1] wr (wr.setCell ⟨w.heap.size + 1 + 1 + 1, 0, none⟩ (.bool (!(m1 == m2)))) := (Stp.refl _ wr).setCell (p := ⟨w.heap.size + 1 + 1 + 1, 0, none⟩) (.inl (by simp)) _
      have T := Lib.hid (dtrim_num (!(m1 == m2)) O no co lo (u * v) (wr.setCell ⟨w.heap.size + 1 + 1 + 1, 0, none⟩ (.bool (!(m1 == m2)))) (H.out.2.2.2.2.1.far H.out.2.2.2.1 sf) (by omega) H.out.2.2.2.2.2.1 H.out.2.2.2.2.2.2.1 hv)
      have QQ := Lib.hid (And.intro (H.out.2.2.1.far (p := ⟨w.heap.size + 1 + 1 + 1, 0, none⟩) (by simp) (.bool (!(m1 == m2)))) (H.out.2.2.2.2.2.2.2.2.2.far sf (.inr (by omega))))
      clear sf hv H P V
      go_wp2_with fail
      refine T.out.mono ?_
      rintro e w2 ⟨mi, A2, n2', c2', rfl, d2, s2⟩
      have qb := QQ.out.1.stp s2
      obtain ⟨z0, z1, t0, t1⟩ := big_cells qb
      have sf := set_big w2 (w.heap.size + 1 + 1) (.bool mi) (.slice A2 n2' c2')
      have d3 := Lib.hid (d2.far qb sf)
      have z3 := Lib.hid ((QQ.out.2.trans s2).far sf (.inr (by omega)))
      obtain ⟨r0', r1', _, _⟩ := big_cells (big_set qb (.bool mi) (.slice A2 n2' c2'))
      clear qb sf d2 s2 T QQ
      go_wp2_with fail
      refine bodyPost_ret (v := .agg #[.bool mi, .slice A2 n2' c2']) ?_ rfl ⟨mi, A2, n2', c2', rfl, d3.out, z3.out⟩
      simp [results, Try.results51, go_sem, r0', r1']
end Go.Proofs.Ytkohpeonnoegpaa
