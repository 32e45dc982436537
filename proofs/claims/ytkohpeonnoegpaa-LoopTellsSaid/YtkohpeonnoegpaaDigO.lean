/- The document's numbers: a size divided by another one, bit by bit. -/
import Derived.Test.YtkohpeonnoegpaaDigI
namespace Go.Proofs.Ytkohpeonnoegpaa
open Go.RowKit
set_option linter.unusedVariables false
set_option linter.unusedSimpArgs false

/-- A row of digits without zeros ahead, as a slice in memory. -/
def CRow (w : World) (A : Option Addr) (n c : Nat) (l : List Int) : Prop := DRow w A n l ∧ n ≤ c ∧ c ≤ maxLen ∧ Cn l
theorem CRow.stp {w w' : World} {A : Option Addr} {n c : Nat} {l : List Int} (h : CRow w A n c l) (hs : Stp [] w w') : CRow w' A n c l := ⟨h.1.stp hs, h.2⟩

theorem cn_len {a b : List Int} (ha : Cn a) (hb : Cn b) (h : dval a < dval b) : a.length ≤ b.length := by
  rcases Nat.lt_or_ge b.length a.length with h1 | h1
  · have := Cn.longer hb.1 ha h1
    omega
  · exact h1
def OverOut (w : World) (n1 : Nat) (a b : List Int) (k : Nat) (Q : Option Addr) (nq cq : Nat) (lq : List Int) (R : Option Addr) (nr cr : Nat) (lr : List Int) (wr : World) : Prop :=
  DRow wr Q nq lq ∧ nq ≤ cq ∧ cq ≤ maxLen ∧ nq + k = n1 ∧ CRow wr R nr cr lr ∧ dval (a.drop k) = dval lq * dval b + dval lr ∧ dval lr < dval b ∧ Stp [] w wr
def OverIn (w : World) (V Qv Bv : Int) (dn t : Nat) (d : Int) (R : Option Addr) (nr cr : Nat) (lr : List Int) (wr : World) : Prop :=
  V * 2 ^ (16 - t) + ((dn / 2 ^ t : Nat) : Int) = (Qv * 2 ^ (16 - t) + d) * Bv + dval lr ∧ 0 ≤ d ∧ d < 2 ^ (16 - t) ∧ dval lr < Bv ∧ CRow wr R nr cr lr ∧ Stp [] w wr
theorem field_big : ∀ (w : World) (m : Bool) (A : Option Addr) (n c : Nat), (Instr.field 61 (.agg #[.bool m, .slice A n c]) 1).run Try.prog w = .ok (.slice A n c) w := fun _ _ _ _ _ => by kernel_rfl
theorem over_step {V Qv Bv : Int} {dn t : Nat} {d R R2 : Int} (ht : t + 1 ≤ 16) (h : V * 2 ^ (16 - (t + 1)) + ((dn / 2 ^ (t + 1) : Nat) : Int) = (Qv * 2 ^ (16 - (t + 1)) + d) * Bv + R) (h2 : R2 = 2 * R + ((dn / 2 ^ t % 2 : Nat) : Int)) :
    V * 2 ^ (16 - t) + ((dn / 2 ^ t : Nat) : Int) = (Qv * 2 ^ (16 - t) + d * 2) * Bv + R2 := by
  have hM : (2 : Int) ^ (16 - t) = 2 * 2 ^ (16 - (t + 1)) := by rw [show 16 - t = (16 - (t + 1)) + 1 by omega, Int.pow_succ, Int.mul_comm]
  have hE := bit_split dn t
  rw [hM]
  generalize (2 : Int) ^ (16 - (t + 1)) = M at *
  generalize dn / 2 ^ (t + 1) = Y at *
  generalize dn / 2 ^ t % 2 = b at *
  have hE2 : ((dn / 2 ^ t : Nat) : Int) = 2 * (Y : Int) + b := by rw [hE]; omega
  rw [hE2, h2]
  have := over_bit (D := 2 * (Y : Int) + b) (bit := b) h rfl
  grind
theorem over_step1 {V Qv Bv : Int} {dn t : Nat} {d R R2 : Int} (ht : t + 1 ≤ 16) (h : V * 2 ^ (16 - (t + 1)) + ((dn / 2 ^ (t + 1) : Nat) : Int) = (Qv * 2 ^ (16 - (t + 1)) + d) * Bv + R) (h2 : R2 = 2 * R + ((dn / 2 ^ t % 2 : Nat) : Int)) :
    V * 2 ^ (16 - t) + ((dn / 2 ^ t : Nat) : Int) = (Qv * 2 ^ (16 - t) + (d * 2 + 1)) * Bv + (R2 - Bv) := by
  have := over_step ht h h2
  generalize (2 : Int) ^ (16 - t) = M at *
  generalize ((dn / 2 ^ t : Nat) : Int) = E at *
  grind
theorem d_step {t : Nat} {d : Int} (ht : t + 1 ≤ 16) (h : d < 2 ^ (16 - (t + 1))) : d * 2 + 1 < 2 ^ (16 - t) := by
  have hM : (2 : Int) ^ (16 - t) = 2 * 2 ^ (16 - (t + 1)) := by rw [show 16 - t = (16 - (t + 1)) + 1 by omega, Int.pow_succ, Int.mul_comm]
  rw [hM]
  omega
theorem d_small {t : Nat} {d : Int} (h : d < 2 ^ (16 - t)) : d ≤ 65535 := by
  have h1 : (2 : Nat) ^ (16 - t) ≤ 2 ^ 16 := Nat.pow_le_pow_right (by decide) (by omega)
  have h2 : ((2 ^ (16 - t) : Nat) : Int) = (2 : Int) ^ (16 - t) := by rw [Int.natCast_pow]; rfl
  omega
theorem bit_one {dn t : Nat} (h : dn / 2 ^ t % 2 = 1) : (((dn : Int) / 2 ^ t).tmod 2 == 1) = true := by
  have e2 : ((dn : Int) / 2 ^ t) = ((dn / 2 ^ t : Nat) : Int) := by rw [Int.natCast_ediv, Int.natCast_pow]; rfl
  rw [e2, Int.tmod_eq_emod_of_nonneg (Int.natCast_nonneg _)]
  generalize dn / 2 ^ t = x at *
  simp
  omega
theorem bit_zero {dn t : Nat} (h : dn / 2 ^ t % 2 = 0) : (((dn : Int) / 2 ^ t).tmod 2 == 1) = false := by
  have e2 : ((dn : Int) / 2 ^ t) = ((dn / 2 ^ t : Nat) : Int) := by rw [Int.natCast_ediv, Int.natCast_pow]; rfl
  rw [e2, Int.tmod_eq_emod_of_nonneg (Int.natCast_nonneg _)]
  generalize dn / 2 ^ t = x at *
  simp
  omega
theorem lit_row (w : World) (d : Int) (h0 : 0 ≤ d) (h1 : d < 65536) : DRow (w.alloc (.cells #[.int .u32 d] 77)) (some ⟨w.heap.size, 0, none⟩) 1 [d] := by
  refine ⟨⟨rfl, fun _ => ⟨w.heap.size, 0, rfl, by simp, by simp, fun j u hu => ?_⟩⟩, rfl, Dg.one h0 h1⟩
  have h := (Blk.new w 77 #[.int .u32 d]).cell j
  rw [Nat.zero_add, h]
  match j, hu with
  | 0, hu => exact hu
  | j + 1, hu => simp at hu
theorem row_reads {w : World} {A : Option Addr} {n : Nat} {l : List Int} (h : DRow w A n l) : Reads w w.heap.size 1 A n (l.map (Value.int .u32)) :=
  ⟨h.1.1, fun hn => by
    obtain ⟨b, off, e, hb, _, hc⟩ := h.1.2 hn
    refine ⟨⟨b, off, none⟩, e, hb, fun j u hu => ?_⟩
    have e : (⟨b, off, none⟩ : Addr).add j = ⟨b, off + j, none⟩ := by unfold Addr.add; split <;> simp_all
    rw [e]
    exact hc j u hu⟩
theorem lit_own (W : World) (d : Int) : (W.alloc (.cells #[.int .u32 d] 77)).ownsRow W.heap.size 77 1 (.slice (some ⟨W.heap.size, 0, none⟩) 1 1) 1 [.int .u32 d] :=
  ⟨rfl, .inr ⟨W.heap.size, 1, #[.int .u32 d], rfl, Nat.le_refl _, heap_alloc_new W _, Nat.le_refl _, by decide, rfl, rfl⟩⟩
theorem over_out {V Qv Bv D d R : Int} {dn : Nat} (h : V * 2 ^ (16 - 0) + ((dn / 2 ^ 0 : Nat) : Int) = (Qv * 2 ^ (16 - 0) + d) * Bv + R) (hD : D = dn + 65536 * V) : D = (d + 65536 * Qv) * Bv + R := by
  have e : (2 : Int) ^ (16 - 0) = 65536 := by decide
  rw [e] at h
  simp at h
  grind
/-- What a division answers. -/
def OverAns (a b : List Int) (w : World) (e : Ending) (w' : World) : Prop :=
  ∃ Q nq cq q R nr cr r, e = .returned (.tuple #[.slice Q nq cq, .slice R nr cr]) ∧ CRow w' Q nq cq q ∧ CRow w' R nr cr r ∧ dval a = dval q * dval b + dval r ∧ dval r < dval b ∧ Stp [] w w'
set_option maxRecDepth 100000 in
set_option maxHeartbeats 4000000 in
theorem dOver_any (A B : Option Addr) (n1 c1 n2 c2 : Nat) (a b : List Int) (w : World) (ha : DRow w A n1 a) (hb : CRow w B n2 c2 b) (hB : 0 < dval b) (hn : n1 ≤ 20) (hm : n2 ≤ 20) :
    Calls Try.prog 52 #[.slice A n1 c1, .slice B n2 c2] w (OverAns a b w) := by
  obtain ⟨i0, hi, hz0, hz1, hz2⟩ := info_parts u32_info
  have P := Lib.hid (And.intro ha (And.intro hb hB))
  have la := ha.2.1
  have hfd := field_big
  clear ha hb hB
  go_enter Try.func52, Try.ntmps52
  go_wp2_with fail
  go_loopw [6, 7, 8] (fun qv rv i wr => ∃ (k : Nat) (Q : Option Addr) (nq cq : Nat) (lq : List Int) (R : Option Addr) (nr cr : Nat) (lr : List Int), k ≤ n1 ∧ i = .int .i64 ((k : Int) - 1) ∧ qv = .slice Q nq cq ∧ rv = .slice R nr cr ∧ Hid (OverOut w n1 a b k Q nq cq lq R nr cr lr wr)) (fun _ _ i _ => (intOf i + 1).toNat)
  case atStart => exact ⟨n1, none, 0, 0, [], none, 0, 0, [], Nat.le_refl _, rfl, rfl, rfl, (by exact ⟨DRow.nil _ _, Nat.le_refl _, by unfold maxLen; omega, by omega, ⟨DRow.nil _ _, Nat.le_refl _, by unfold maxLen; omega, Cn.nil⟩, by rw [List.drop_of_length_le (by omega)]; simp [dval], by simpa [dval] using P.out.2.2, Stp.refl _ _⟩)⟩
  case round =>
    obtain ⟨k, Q, nq, cq, lq, R, nr, cr, lr, hk, rfl, rfl, rfl, H⟩ := hrel
    rcases k with _ | k
    · have TR := Lib.hid (dtrim_any false Q nq cq lq wr H.out.1 (by have := H.out.2.2.2.1; omega) H.out.2.1 H.out.2.2.1)
      have HV := Lib.hid (show dval a = dval lq * dval b + dval lr from H.out.2.2.2.2.2.1)
      go_wp2_with fail
      refine TR.out.mono ?_
      rintro e w3 ⟨m3, A3, n3', c3', l3, rfl, f3, g1, g2, cn3, _, ⟨_, hv3, hl3⟩, s3⟩
      have R3 := Lib.hid (show CRow w3 A3 n3' c3' l3 ∧ CRow w3 R nr cr lr ∧ dval a = dval l3 * dval b + dval lr ∧ dval lr < dval b ∧ Stp [] w w3 from ⟨⟨f3, g1, g2, cn3⟩, H.out.2.2.2.2.1.stp s3, by rw [hv3]; exact HV.out, H.out.2.2.2.2.2.2.1, H.out.2.2.2.2.2.2.2.trans s3⟩)
      clear TR HV H f3 g1 g2 cn3 hv3 hl3 s3
      go_wp2_with fail
      go_ret2
      exact ⟨A3, n3', c3', l3, R, nr, cr, lr, rfl, R3.out⟩
    · have hka : k < a.length := by omega
      obtain ⟨b1, o1, rfl, hc1⟩ := (P.out.1.stp H.out.2.2.2.2.2.2.2).cell (k := k) (by omega)
      rw [getD_in hka] at hc1
      have x0 := P.out.1.2.2 _ (List.getElem_mem hka)
      have DD := Lib.hid (show dval (a.drop k) = a[k] + 65536 * dval (a.drop (k + 1)) by rw [dval_drop, getD_in hka])
      obtain ⟨dn, hdn⟩ : ∃ dn : Nat, a[k] = (dn : Int) := ⟨a[k].toNat, by omega⟩
      rw [hdn] at hc1 x0 DD
      have ek : ((k + 1 : Nat) : Int) - 1 = (k : Int) := by omega
      rw [ek]
      obtain ⟨wo, hwo⟩ : ∃ wo, wo = wr := ⟨_, rfl⟩
      subst hwo
      clear hdn
      obtain ⟨_, x1⟩ := x0
      have hdn : dn < 65536 := by omega
      clear x1
      go_wp2_with fail
      go_loopw [7, 9, 10] (fun rv dv kv wr => ∃ (t : Nat) (d : Int) (R : Option Addr) (nr cr : Nat) (lr : List Int), t ≤ 16 ∧ kv = .int .i64 ((t : Int) - 1) ∧ dv = .int .u32 d ∧ (0 ≤ d ∧ d ≤ 65535) ∧ rv = .slice R nr cr ∧ nr ≤ 20 ∧ Hid (OverIn wo (dval (a.drop (k + 1))) (dval lq) (dval b) dn t d R nr cr lr wr)) (fun _ _ kv _ => (intOf kv + 1).toNat)
      case atStart => exact ⟨16, 0, R, nr, cr, lr, by omega, rfl, rfl, by decide, rfl, by have := cn_len H.out.2.2.2.2.1.2.2.2 P.out.2.1.2.2.2 H.out.2.2.2.2.2.2.1; have := H.out.2.2.2.2.1.1.2.1; have := P.out.2.1.1.2.1; omega, (by exact ⟨by rw [Nat.div_eq_of_lt hdn, H.out.2.2.2.2.2.1]; simp, by decide, by decide, H.out.2.2.2.2.2.2.1, H.out.2.2.2.2.1, Stp.refl _ _⟩)⟩
      case round =>
        obtain ⟨t, d, R, nr, cr, lr, ht, rfl, rfl, ⟨d0, d1⟩, rfl, hnr, HI⟩ := hrel
        rcases t with _ | t
        · have OO := Lib.hid (over_out HI.out.1 DD.out)
          have RD := (row_reads (H.out.1.stp HI.out.2.2.2.2.2))
          have nn := H.out.2.2.2.1
          have d65 := HI.out.2.2.1
          have d66 : d < 65536 := d65
          go_wp2_with (at_builtin; refine wpList_append_any _ rfl _ _ 59 rfl wr.heap.size 77 i0 (.int .u32 0) 1 4 Try.underlying59 hi hz0 hz1 hz2 rfl (by decide) _ 1 [.int .u32 d] rfl (lit_own wr d) wr.heap.size Q nq cq (lq.map (Value.int .u32)) rfl (RD.alloc (Nat.le_refl _) _) (by intro u hu; obtain ⟨y, _, rfl⟩ := List.mem_map.mp hu; rfl) (by unfold maxLen; omega) (by omega) (by simp) ?_)
          intro v' w2 hown' hgrow _
          have st2 : Stp [] wr w2 := ((Stp.refl [] wr).alloc _).grown hgrow (fun k hk => .inr (dig_base (lit_own wr d) hk))
          obtain ⟨A2, c2', rfl, e1, e2, e3⟩ := own_form (G := []) hown' (by simp)
          have O := Lib.hid (show OverOut w n1 a b k A2 (1 + nq) c2' (d :: lq) R nr cr lr w2 from ⟨⟨e3, by have := H.out.1.2.1; simp; omega, Dg.cons d0 d66 H.out.1.2.2⟩, e1, e2, by omega, HI.out.2.2.2.2.1.stp st2, OO.out, HI.out.2.2.2.1, (H.out.2.2.2.2.2.2.2.trans HI.out.2.2.2.2.2).trans st2⟩)
          clear OO RD hown' hgrow st2 e1 e2 e3 HI H
          go_wp2_with fail
          go_roundw
          case rel => exact ⟨k, A2, 1 + nq, c2', d :: lq, R, nr, cr, lr, by omega, rfl, rfl, rfl, O⟩
          case measure => simp [intOf]
        · have et : ((t + 1 : Nat) : Int) - 1 = (t : Int) := by omega
          rw [et]
          have hc1' := HI.out.2.2.2.2.2.cell hc1 (by simp)
          have cr1 := HI.out.2.2.2.2.1
          have PL := Lib.hid (dplus_any R R nr nr cr cr lr lr wr cr1.1 cr1.1 (by omega) (by omega))
          go_wp2_with fail
          refine PL.out.mono ?_
          rintro e w1 ⟨A1, n1', c1', l1, rfl, f1, e1, e2, ⟨e3, e4⟩, s1⟩
          have hc1'' := s1.cell hc1' (by simp)
          by_cases hb : dn / 2 ^ t % 2 = 1
          · have hbit := bit_one hb
            go_wp2_with fail
            have PL2 := Lib.hid (dplus_any A1 (some ⟨w1.heap.size, 0, none⟩) n1' 1 c1' 1 l1 [1] (w1.alloc (.cells #[.int .u32 1] 77)) (f1.stp ((Stp.refl [] w1).alloc _)) (lit_row w1 1 (by decide) (by decide)) (by have := f1.2.1; omega) (by omega))
            refine PL2.out.mono ?_
            rintro e w2 ⟨A2, n2', c2', l2, rfl, f2, b1', b2', ⟨b3', b4'⟩, s2'⟩
            have s2 := s1.trans (((Stp.refl [] w1).alloc _).trans s2')
            have hv2 : dval l2 = 2 * dval lr + ((dn / 2 ^ t % 2 : Nat) : Int) := by rw [b3', e3, hb, dval_one]; omega
            have hn2 : n2' ≤ 22 := by have := f2.2.1; have := f1.2.1; omega
            clear PL2 s2' b3' b4'
            have TR := Lib.hid (dtrim_any false A2 n2' c2' l2 w2 f2 (by omega) b1' b2')
            clear PL
            go_wp2_with fail
            refine TR.out.mono ?_
            rintro e w3 ⟨m3, A3, n3', c3', l3, rfl, f3, g1, g2, cn3, _, ⟨_, hv3, hl3⟩, s3⟩
            have BR := (P.out.2.1.stp (H.out.2.2.2.2.2.2.2.trans (HI.out.2.2.2.2.2.trans (s2.trans s3))))
            have hn3 := f3.2.1
            have LL := Lib.hid (dLess_any A3 B n3' n2 c3' c2 l3 b w3 f3 BR.1 cn3 BR.2.2.2 (by omega) (by omega))
            have BR := Lib.hid BR
            go_wp2_with fail
            refine LL.out.mono ?_
            rintro e w4 ⟨rfl, jj, rfl⟩
            clear LL TR
            by_cases hge : dval l3 < dval b
            · have hd : decide (dval l3 < dval b) = true := decide_eq_true hge
              rw [hd]
              have O := Lib.hid (show OverIn wo (dval (a.drop (k + 1))) (dval lq) (dval b) dn t (d * 2) A3 n3' c3' l3 (w3.drewN jj) from ⟨over_step (by omega) HI.out.1 (by rw [hv3, hv2]), by omega, by have := d_step ht HI.out.2.2.1; omega, hge, ⟨f3, g1, g2, cn3⟩, (HI.out.2.2.2.2.2.trans (s2.trans s3)).drewN _⟩)
              have hn20 : n3' ≤ 20 := by have := cn_len cn3 BR.out.2.2.2 hge; have := BR.out.1.2.1; omega
              clear HI BR f1 f2 f3 g1 g2 cn3 hv3 hv2 s1 s2 s3 hc1' hc1'' cr1
              go_wp2_with fail
              go_roundw
              case rel => exact ⟨t, d * 2, A3, n3', c3', l3, by omega, rfl, rfl, ⟨by omega, by have := d_small O.out.2.2.1; omega⟩, rfl, hn20, O⟩
              case measure => simp [intOf]
            · have hd : decide (dval l3 < dval b) = false := decide_eq_false hge
              rw [hd]
              have LS := Lib.hid (dless_any A3 B n3' n2 c3' c2 l3 b (w3.drewN jj) f3 BR.out.1 (by omega) (by omega))
              have hr2 := HI.out.2.2.2.1
              go_wp2_with fail
              refine LS.out.mono ?_
              rintro e w5 ⟨A5, n5', c5', l5, rfl, f5, i1, i2, ⟨hv5, hl5⟩, s5⟩
              have hn5 := f5.2.1
              have TR5 := Lib.hid (dtrim_any false A5 n5' c5' l5 w5 f5 (by omega) i1 i2)
              go_wp2_with fail
              refine TR5.out.mono ?_
              rintro e w6 ⟨m6, A6, n6', c6', l6, rfl, f6, j1, j2, cn6, _, ⟨_, hv6, hl6⟩, s6⟩
              have hlt6 : dval l6 < dval b := by
                rw [hv6, hv5, hv3, hv2]
                have : dn / 2 ^ t % 2 < 2 := Nat.mod_lt _ (by decide)
                generalize dn / 2 ^ t % 2 = bb at *
                omega
              have O := Lib.hid (show OverIn wo (dval (a.drop (k + 1))) (dval lq) (dval b) dn t (d * 2 + 1) A6 n6' c6' l6 w6 from ⟨by rw [hv6, hv5]; exact over_step1 (by omega) HI.out.1 (by rw [hv3, hv2]), by omega, d_step ht HI.out.2.2.1, hlt6, ⟨f6, j1, j2, cn6⟩, (((HI.out.2.2.2.2.2.trans (s2.trans s3)).drewN _).trans s5).trans s6⟩)
              have hn20 : n6' ≤ 20 := by have := cn_len cn6 BR.out.2.2.2 hlt6; have := BR.out.1.2.1; have := f6.2.1; omega
              clear HI BR f1 f2 f3 g1 g2 cn3 hv3 hv2 s1 s2 s3 hc1' hc1'' cr1 LS TR5 f5 i1 i2 hv5 s5 f6 j1 j2 cn6 hv6 s6 hlt6 hr2
              go_wp2_with fail
              go_roundw
              case rel => exact ⟨t, d * 2 + 1, A6, n6', c6', l6, by omega, rfl, rfl, ⟨by omega, d_small O.out.2.2.1⟩, rfl, hn20, O⟩
              case measure => simp [intOf]
          · have hb0 : dn / 2 ^ t % 2 = 0 := by
              have : dn / 2 ^ t % 2 < 2 := Nat.mod_lt _ (by decide)
              generalize dn / 2 ^ t % 2 = bb at *
              omega
            have hbit := bit_zero hb0
            have hv2 : dval l1 = 2 * dval lr + ((dn / 2 ^ t % 2 : Nat) : Int) := by rw [e3, hb0]; omega
            have hn2 : n1' ≤ 22 := by have := f1.2.1; omega
            have TR := Lib.hid (dtrim_any false A1 n1' c1' l1 w1 f1 (by omega) e1 e2)
            clear PL
            go_wp2_with fail
            refine TR.out.mono ?_
            rintro e w3 ⟨m3, A3, n3', c3', l3, rfl, f3, g1, g2, cn3, _, ⟨_, hv3, hl3⟩, s3⟩
            have BR := (P.out.2.1.stp (H.out.2.2.2.2.2.2.2.trans (HI.out.2.2.2.2.2.trans (s1.trans s3))))
            have hn3 := f3.2.1
            have LL := Lib.hid (dLess_any A3 B n3' n2 c3' c2 l3 b w3 f3 BR.1 cn3 BR.2.2.2 (by omega) (by omega))
            have BR := Lib.hid BR
            go_wp2_with fail
            refine LL.out.mono ?_
            rintro e w4 ⟨rfl, jj, rfl⟩
            clear LL TR
            by_cases hge : dval l3 < dval b
            · have hd : decide (dval l3 < dval b) = true := decide_eq_true hge
              rw [hd]
              have O := Lib.hid (show OverIn wo (dval (a.drop (k + 1))) (dval lq) (dval b) dn t (d * 2) A3 n3' c3' l3 (w3.drewN jj) from ⟨over_step (by omega) HI.out.1 (by rw [hv3, hv2]), by omega, by have := d_step ht HI.out.2.2.1; omega, hge, ⟨f3, g1, g2, cn3⟩, (HI.out.2.2.2.2.2.trans (s1.trans s3)).drewN _⟩)
              have hn20 : n3' ≤ 20 := by have := cn_len cn3 BR.out.2.2.2 hge; have := BR.out.1.2.1; omega
              clear HI BR f1 f3 g1 g2 cn3 hv3 hv2 s1 s3 hc1' hc1'' cr1
              go_wp2_with fail
              go_roundw
              case rel => exact ⟨t, d * 2, A3, n3', c3', l3, by omega, rfl, rfl, ⟨by omega, by have := d_small O.out.2.2.1; omega⟩, rfl, hn20, O⟩
              case measure => simp [intOf]
            · have hd : decide (dval l3 < dval b) = false := decide_eq_false hge
              rw [hd]
              have LS := Lib.hid (dless_any A3 B n3' n2 c3' c2 l3 b (w3.drewN jj) f3 BR.out.1 (by omega) (by omega))
              have hr2 := HI.out.2.2.2.1
              go_wp2_with fail
              refine LS.out.mono ?_
              rintro e w5 ⟨A5, n5', c5', l5, rfl, f5, i1, i2, ⟨hv5, hl5⟩, s5⟩
              have hn5 := f5.2.1
              have TR5 := Lib.hid (dtrim_any false A5 n5' c5' l5 w5 f5 (by omega) i1 i2)
              go_wp2_with fail
              refine TR5.out.mono ?_
              rintro e w6 ⟨m6, A6, n6', c6', l6, rfl, f6, j1, j2, cn6, _, ⟨_, hv6, hl6⟩, s6⟩
              have hlt6 : dval l6 < dval b := by
                rw [hv6, hv5, hv3, hv2]
                have : dn / 2 ^ t % 2 < 2 := Nat.mod_lt _ (by decide)
                generalize dn / 2 ^ t % 2 = bb at *
                omega
              have O := Lib.hid (show OverIn wo (dval (a.drop (k + 1))) (dval lq) (dval b) dn t (d * 2 + 1) A6 n6' c6' l6 w6 from ⟨by rw [hv6, hv5]; exact over_step1 (by omega) HI.out.1 (by rw [hv3, hv2]), by omega, d_step ht HI.out.2.2.1, hlt6, ⟨f6, j1, j2, cn6⟩, (((HI.out.2.2.2.2.2.trans (s1.trans s3)).drewN _).trans s5).trans s6⟩)
              have hn20 : n6' ≤ 20 := by have := cn_len cn6 BR.out.2.2.2 hlt6; have := BR.out.1.2.1; have := f6.2.1; omega
              clear HI BR f1 f3 g1 g2 cn3 hv3 hv2 s1 s3 hc1' hc1'' cr1 LS TR5 f5 i1 i2 hv5 s5 f6 j1 j2 cn6 hv6 s6 hlt6 hr2
              go_wp2_with fail
              go_roundw
              case rel => exact ⟨t, d * 2 + 1, A6, n6', c6', l6, by omega, rfl, rfl, ⟨by omega, d_small O.out.2.2.1⟩, rfl, hn20, O⟩
              case measure => simp [intOf]
end Go.Proofs.Ytkohpeonnoegpaa
