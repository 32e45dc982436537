/- The document's numbers: a size less another one, which of two is less, zeros cut off. -/
import Derived.Test.YtkohpeonnoegpaaDigB
namespace Go.Proofs.Ytkohpeonnoegpaa
open Go.RowKit
set_option linter.unusedVariables false
set_option linter.unusedSimpArgs false

set_option maxHeartbeats 1000000 in
theorem dless_any (A B : Option Addr) (n m c d : Nat) (a b : List Int) (w : World) (ha : DRow w A n a) (hb : DRow w B m b) (hn : n ≤ 1000) (hle : dval b ≤ dval a) :
    Calls Try.prog 66 #[.slice A n c, .slice B m d] w (DAns (fun l => dval l = dval a - dval b ∧ l.length = n) w) := by
  obtain ⟨i0, hi, hz0, hz1, hz2⟩ := info_parts u32_info
  have P := Lib.hid (And.intro ha (And.intro hb hle))
  clear ha hb hle
  go_enter Try.func66, Try.ntmps66
  go_wp2_with fail
  go_loopw [5, 6, 7] (fun v c i wr => ∃ (k : Nat) (q : Int) (r : List Int), k ≤ n ∧ i = .int .i64 k ∧ c = .int .u32 q ∧ (0 ≤ q ∧ q ≤ 1) ∧ r.length = k ∧ Hid (wr.ownsRow w.heap.size 77 1 v k (r.map (Value.int .u32)) ∧ Dg r ∧ dval r + p65 k * (dval (a.drop k) - dval (b.drop k) - q) = dval a - dval b ∧ Stp [] w wr)) (fun _ _ i _ => n - (intOf i).toNat)
  case atStart => exact ⟨0, 0, [], by omega, rfl, rfl, by decide, rfl, ⟨World.ownsRow_nil _ _ _ _, Dg.nil, by simp [dval, p65_zero], Stp.refl _ _⟩⟩
  case round =>
    obtain ⟨k, q, r, hk, rfl, rfl, ⟨q0, q1⟩, hr, H⟩ := hrel
    by_cases hst : k < n
    · obtain ⟨b9, off, rfl, hc⟩ := (P.out.1.stp H.out.2.2.2).cell hst
      have B0 := dat_any B m d b k wr (P.out.2.1.stp H.out.2.2.2)
      have Bn := fun j => dat_any B m d b k (wr.drewN j) (P.out.2.1.stp (H.out.2.2.2.drewN j))
      have hx := P.out.1.2.2.getD k
      have hy := P.out.2.1.2.2.getD k
      have PR := Lib.hid (fun (n : Int) (hn : n = 65536 + a.getD k 0 - b.getD k 0 - q) => less_round (a := a) (b := b) (c := q) hr hn)
      generalize a.getD k 0 = x at *
      generalize b.getD k 0 = y at *
      obtain ⟨x0, x1⟩ := hx
      obtain ⟨y0, y1⟩ := hy
      go_wp2_with (first
        | (at_builtin; refine wpList_append_own _ rfl _ _ 59 rfl w.heap.size 77 i0 (.int .u32 0) 1 4 Try.underlying59 hi hz0 hz1 hz2 rfl (by decide) _ _ _ rfl ((own_drewN H.out.1 _).alloc _) ⟨wr.heap.size, 0, none⟩ 1 1 [.int .u32 ((65536 + x - y - q) % 65536)] rfl rfl ?c1 ?c2 ?c3 ?c4 ?c5 ?_)
        | (go_quiet (first | (go_at_call 63; with_reducible exact Calls.quiet_of_same B0) | (go_at_call 63; with_reducible exact quiet_add_same (Bn _)) | (go_at_call 63; with_reducible exact Calls.quiet_of_same (Bn _)))))
      case c1 =>
        intro j u hj
        match j, hj with
        | 0, hj =>
          simp at hj
          subst hj
          exact (Blk.new (wr.drewN _) 77 #[.int .u32 ((65536 + x - y - q) % 65536)]).cell 0
      case c2 => intro u hu; simp at hu; subst hu; rfl
      case c3 => unfold maxLen; omega
      case c4 => omega
      case c5 => have := H.out.2.2.2.size; (try simp); omega
      · intro v' w2 hown' hgrow _
        have R := Lib.hid (And.intro (show w2.ownsRow w.heap.size 77 1 v' (k + 1) ((r ++ [(65536 + x - y - q) % 65536]).map (Value.int .u32)) by
          rw [List.map_append]
          exact hown') (show Stp [] w w2 from ((H.out.2.2.2.drewN _).alloc _).grown hgrow (fun k hk => .inr (dig_base H.out.1 hk))))
        have R2 := Lib.hid (And.intro H.out.2.1 (H.out.2.2.1.symm.trans (PR.out _ rfl).symm))
        clear hown' hgrow H PR B0
        go_wp2_with fail
        go_roundw
        case rel => exact ⟨k + 1, _, r ++ [(65536 + x - y - q) % 65536], by omega, by go_num, rfl, by omega, by simp; omega, ⟨R.out.1, R2.out.1.snoc (by omega) (by omega), R2.out.2.symm, R.out.2⟩⟩
        case measure => simp [intOf]; omega
    · obtain rfl : k = n := by omega
      have HV := Lib.hid (less_end hr P.out.1.2.2 P.out.2.1.2.2 H.out.2.1 P.out.1.2.1 q0 P.out.2.2 H.out.2.2.1)
      have hown := H.out.1
      obtain ⟨A2, c2, rfl, e1, e2, e3⟩ := own_form (G := []) hown (by simp)
      have T := Lib.hid (And.intro H.out.2.1 (And.intro e1 (And.intro e2 (And.intro e3 H.out.2.2.2))))
      clear hown H e1 e2 e3
      go_wp2_with fail
      go_ret
      exact ⟨A2, k, c2, r, rfl, ⟨T.out.2.2.2.1, hr, T.out.1⟩, T.out.2.1, T.out.2.2.1, ⟨HV.out, hr⟩, T.out.2.2.2.2⟩

set_option maxHeartbeats 1000000 in
theorem dLess_any (A B : Option Addr) (n m c d : Nat) (a b : List Int) (w : World) (ha : DRow w A n a) (hb : DRow w B m b) (ca : Cn a) (cb : Cn b) (hn : n ≤ 1000) (hm : m ≤ 1000) :
    Calls Try.prog 65 #[.slice A n c, .slice B m d] w fun e w' => e = .returned (.bool (decide (dval a < dval b))) ∧ ∃ j, w' = w.drewN j := by
  have P := Lib.hid (And.intro ha (And.intro hb (And.intro ca cb)))
  have la := ha.2.1
  have lb := hb.2.1
  obtain ⟨R, hR⟩ : ∃ R, decide (dval a < dval b) = R := ⟨_, rfl⟩
  rw [hR]
  have HR := Lib.hid hR
  clear ha hb ca cb hR
  by_cases hnm : n = m
  · subst hnm
    go_enter Try.func65, Try.ntmps65
    go_wp2_with fail
    go_loopw [5] (fun i wr => ∃ (k : Nat), k ≤ n ∧ i = .int .i64 ((k : Int) - 1) ∧ Hid (a.drop k = b.drop k) ∧ ∃ j, wr = w.drewN j) (fun i _ => (intOf i + 1).toNat)
    case atStart => exact ⟨n, by omega, by go_num, (by show a.drop n = b.drop n; rw [List.drop_of_length_le (by omega), List.drop_of_length_le (by omega)]), 0, rfl⟩
    case round =>
      obtain ⟨k, hk, rfl, H, jj, rfl⟩ := hrel
      rcases k with _ | k
      · have e : a = b := by simpa using H.out
        obtain rfl : R = false := by rw [← HR.out, e]; simp
        clear P H e HR
        go_wp2_with fail
        go_ret
        exact ⟨rfl, jj, rfl⟩
      · have hka : k < a.length := by omega
        have hkb : k < b.length := by omega
        obtain ⟨b1, o1, rfl, hc1⟩ := P.out.1.cell (k := k) (by omega)
        obtain ⟨b2, o2, rfl, hc2⟩ := P.out.2.1.cell (k := k) (by omega)
        have LD := Lib.hid (less_digit P.out.1.2.2 P.out.2.1.2.2 hka hkb H.out)
        have DA := Lib.hid (And.intro (List.drop_eq_getElem_cons hka) (List.drop_eq_getElem_cons hkb))
        rw [getD_in hka] at hc1
        rw [getD_in hkb] at hc2
        have x0 := (P.out.1.2.2 _ (List.getElem_mem hka))
        have y0 := (P.out.2.1.2.2 _ (List.getElem_mem hkb))
        have ek : ((k + 1 : Nat) : Int) - 1 = (k : Int) := by omega
        rw [ek]
        generalize a[k] = x at *
        generalize b[k] = y at *
        obtain ⟨x0, x1⟩ := x0
        obtain ⟨y0, y1⟩ := y0
        by_cases hxy : x = y
        · subst hxy
          have H2 := Lib.hid (show a.drop k = b.drop k by rw [DA.out.1, DA.out.2, H.out])
          have hne : (x != x) = false := by simp
          clear LD DA H P
          go_wp2_with (go_quiet (fail))
          go_roundw
          case rel => exact ⟨k, by omega, rfl, H2.out, _, rfl⟩
          case measure => simp [intOf]
        · have hl := LD.out hxy
          have hne : (x != y) = true := by simp [hxy]
          obtain rfl : R = decide (x < y) := by rw [← HR.out, hl]
          clear LD DA H P hl HR hxy
          go_wp2_with (go_quiet (fail))
          go_ret
          exact ⟨rfl, _, by rw [World.drewN_drewN, World.drewN_drewN]⟩
  · have hd : decide (n < m) = decide (dval a < dval b) := by
      rw [decide_eq_decide]
      rcases Nat.lt_or_gt_of_ne hnm with h1 | h1
      · have := Cn.longer P.out.1.2.2 P.out.2.2.2 (by omega); omega
      · have := Cn.longer P.out.2.1.2.2 P.out.2.2.1 (by omega); omega
    obtain rfl : R = decide (n < m) := by rw [← HR.out, hd]
    clear hd P HR
    have hne : ((n : Int) != (m : Int)) = true := by simp; omega
    go_enter Try.func65, Try.ntmps65
    go_wp2_with fail
    go_ret
    exact ⟨rfl, 0, rfl⟩

/-- What a function on numbers answers. -/
def BAns (P : Bool → List Int → Prop) (w : World) (e : Ending) (w' : World) : Prop :=
  ∃ mi A n c l, e = .returned (.agg #[.bool mi, .slice A n c]) ∧ DRow w' A n l ∧ n ≤ c ∧ c ≤ maxLen ∧ Cn l ∧ (l = [] → mi = false) ∧ P mi l ∧ Stp [] w w'
def lenAt (w : World) (g : Nat) : Nat := match w.cell? ⟨g, 1, none⟩ with | some (.slice _ k _) => k | _ => 0
set_option maxHeartbeats 1000000 in
theorem dtrim_any (mi : Bool) (A : Option Addr) (n c : Nat) (l : List Int) (w : World) (h : DRow w A n l) (hn : n ≤ 1000) (hc : n ≤ c) (hc2 : c ≤ maxLen) :
    Calls Try.prog 64 #[.agg #[.bool mi, .slice A n c]] w (BAns (fun m r => m = (mi && decide (0 < r.length)) ∧ dval r = dval l ∧ r.length ≤ n) w) := by
  have P := Lib.hid h
  have hl := h.2.1
  have HC := Lib.hid hc2
  unfold maxLen at hc2
  clear h
  go_enter Try.func64, Try.ntmps64
  go_wp2_with fail
  have B0 := (Blk.new w 61 #[.bool mi, .slice A n c]).alloc (.cells #[.bool false, .slice none 0 0] 61)
  have B1 := (show Blk _ (w.heap.size + 1) _ _ from by have := Blk.new (w.alloc (.cells #[.bool mi, .slice A n c] 61)) 61 #[.bool false, .slice none 0 0]; rwa [World.size_alloc] at this)
  have S0 := (((Stp.refl [] w).alloc (.cells #[.bool mi, .slice A n c] 61)).alloc (.cells #[.bool false, .slice none 0 0] 61))
  go_loopw [] (fun wr => ∃ (k : Nat), k ≤ n ∧ Blk wr w.heap.size 61 #[.bool mi, .slice A k c] ∧ Blk wr (w.heap.size + 1) 61 #[.bool false, .slice none 0 0] ∧ Hid (dval (l.take k) = dval l) ∧ Stp [] w wr) (fun wr => lenAt wr w.heap.size)
  case atStart => exact ⟨n, Nat.le_refl _, B0, B1, (by show dval (l.take n) = dval l; rw [List.take_of_length_le (by omega)]), S0⟩
  case round =>
    obtain ⟨k, hk, hb, hb2, H, st⟩ := hrel
    clear B0 B1 S0
    have c0 := hb.cell 0
    have c1 := hb.cell 1
    have f0 := hb.frozen 0
    have f1 := hb.frozen 1
    have d0 := hb2.cell 0
    have d1 := hb2.cell 1
    have e0 := hb2.frozen 0
    have e1 := hb2.frozen 1
    simp only [List.getElem?_toArray, List.getElem?_cons_zero, List.getElem?_cons_succ] at c0 c1 d0 d1
    rcases k with _ | k
    · have q := ((hb2.far (p := ⟨w.heap.size, 0, none⟩) (by simp) (.bool false)).set_ 0 (.bool false)).set_ 1 (.slice A 0 c)
      have q0 := q.cell 0
      have q1 := q.cell 1
      simp at q0 q1
      have hv : dval l = 0 := by rw [← H.out]; rfl
      have HV := Lib.hid hv
      have D := DRow.nil (((wr.setCell ⟨w.heap.size, 0, none⟩ (.bool false)).setCell ⟨w.heap.size + 1, 0, none⟩ (.bool false)).setCell ⟨w.heap.size + 1, 1, none⟩ (.slice A 0 c)) A
      have st2 := ((st.setCell (p := ⟨w.heap.size, 0, none⟩) (.inr (Nat.le_refl _)) (.bool false)).setCell (p := ⟨w.heap.size + 1, 0, none⟩) (.inr (by simp)) (.bool false)).setCell (p := ⟨w.heap.size + 1, 1, none⟩) (.inr (by simp)) (.slice A 0 c)
      have Q := Lib.hid (And.intro D st2)
      clear q D st2 P H hb hb2 hv
      go_wp2_with fail
      refine bodyPost_ret (v := .agg #[.bool false, .slice A 0 c]) ?_ rfl ⟨false, A, 0, c, [], rfl, Q.out.1, Nat.zero_le _, HC.out, Cn.nil, fun _ => rfl, ⟨by simp, by rw [HV.out]; rfl, Nat.zero_le _⟩, Q.out.2⟩
      simp [results, Try.results64, go_sem, q0, q1]
    · have hkl : k < l.length := by omega
      obtain ⟨b1, o1, rfl, hc1⟩ := (P.out.stp st).cell (k := k) (by omega)
      rw [getD_in hkl] at hc1
      have TS := fun h => trim_step hkl H.out h
      have TE := fun h => trim_end hkl P.out.2.2 h
      have x0 := P.out.2.2 _ (List.getElem_mem hkl)
      have HS := Lib.hid (And.intro TS TE)
      clear TS TE
      generalize l[k] = x at *
      obtain ⟨x0, x1⟩ := x0
      by_cases hx : x = 0
      · subst hx
        have H2 := Lib.hid (HS.out.1 rfl)
        have Q := Lib.hid (And.intro (hb.set_ 1 (.slice (some ⟨b1, o1, none⟩) k c)) (And.intro (hb2.far (p := ⟨w.heap.size, 1, none⟩) (by simp) (.slice (some ⟨b1, o1, none⟩) k c)) (st.setCell (p := ⟨w.heap.size, 1, none⟩) (.inr (Nat.le_refl _)) (.slice (some ⟨b1, o1, none⟩) k c))))
        have c1' := Lib.hid c1
        clear HS
        go_wp2_with fail
        go_roundw
        case rel => exact ⟨k, by omega, Q.out.1, Q.out.2.1, H2.out, Q.out.2.2⟩
        case measure =>
          have h2 := Q.out.1.cell 1
          simp at h2
          have h3 := c1'.out
          simp [lenAt, h2, h3]
      · have hne : (x == 0) = false := by simp [hx]
        have D := (P.out.take (k := k + 1) (by omega)).stp st
        have TE := Lib.hid (HS.out.2 hx)
        have q := (hb2.set_ 0 (.bool mi)).set_ 1 (.slice (some ⟨b1, o1, none⟩) (k + 1) c)
        have q0 := q.cell 0
        have q1 := q.cell 1
        simp at q0 q1
        have st3 := ((Stp.refl [] w).trans st)
        have st2 := (st.setCell (p := ⟨w.heap.size + 1, 0, none⟩) (.inr (by simp)) (.bool mi)).setCell (p := ⟨w.heap.size + 1, 1, none⟩) (.inr (by simp)) (.slice (some ⟨b1, o1, none⟩) (k + 1) c)
        have D2 := (P.out.take (k := k + 1) (by omega)).stp st2
        have Q := Lib.hid (And.intro D2 (And.intro st2 H.out))
        have hlk : (l.take (k + 1)).length = k + 1 := by simp; omega
        clear q D D2 st2 st3 P H hb hb2 HS
        go_wp2_with fail
        refine bodyPost_ret (v := .agg #[.bool mi, .slice (some ⟨b1, o1, none⟩) (k + 1) c]) ?_ rfl ⟨mi, some ⟨b1, o1, none⟩, k + 1, c, l.take (k + 1), rfl, Q.out.1, by omega, HC.out, TE.out, fun h => by rw [h] at hlk; simp at hlk, ⟨by rw [hlk]; simp, Q.out.2.2, by omega⟩, Q.out.2.1⟩
        simp [results, Try.results64, go_sem, q0, q1]
end Go.Proofs.Ytkohpeonnoegpaa
