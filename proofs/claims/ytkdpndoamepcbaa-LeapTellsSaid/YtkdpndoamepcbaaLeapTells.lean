/- LeapTells: a table of any leaps, to which others are added, tells what the document's tells; for any arguments. -/
import Derived.Test.YtkdpndoamepcbaaLeapZ
import Derived.Test.YtkdpndoamepcbaaOpenC
import Derived.BigRegion
import Derived.Deep.RegionWith
import Derived.Deep.DeepCutAuto
import Derived.Deep.CutBlock
import Derived.Deep.CutRange
import Derived.StillTailTactics
namespace Go.Proofs.Ytkdpndoamepcbaa
open Go.RowKit
set_option linter.unusedVariables false
set_option linter.unusedSimpArgs false

def Bd2 (L : List (Int × Int)) : Prop := ∀ x ∈ L, (-9223372036854775808 ≤ x.1 ∧ x.1 ≤ 9223372036854775807) ∧ (-9223372036854775808 ≤ x.2 ∧ x.2 ≤ 9223372036854775807)
theorem row2_take {w : World} {A : Option Addr} {n m : Nat} {L : List (Int × Int)} {G : List Nat} (h : RowIn w A n 2 (pcells L) G) (hl : L.length = n) (hm : m ≤ n) : RowIn w A m 2 (pcells (L.take m)) G := by
  have e : pcells (L.take m) = (pcells L).take (m * 2) := by
    have h1 := pcells_append (L.take m) (L.drop m)
    rw [List.take_append_drop] at h1
    have h2 : (pcells (L.take m)).length = m * 2 := by rw [pcells_length, List.length_take, Nat.min_eq_left (by omega)]
    rw [h1, ← h2, List.take_left]
  rw [e]
  refine ⟨by have := h.1; simp; omega, fun hn => ?_⟩
  obtain ⟨b, off, e, hb, hg, hc⟩ := h.2 (by omega)
  exact ⟨b, off, e, hb, hg, fun j u hu => hc j u (by
    rw [List.getElem?_take] at hu
    split at hu
    · exact hu
    · cases hu)⟩

/-- What x.Add and w.Add of one leap come to. -/
def addS (c : LT) (y1 y2 ex : Int) : Int := if newS (c.L.length + 1) (c.L ++ [(y1, y2)]) ex c.base ≠ 0 then newS (c.L.length + 1) (c.L ++ [(y1, y2)]) ex c.base else if ex < c.ex then 1 else 0
theorem more_bd {c : LT} (ok : c.ok) {y1 y2 : Int} (h : (-9223372036854775808 ≤ y1 ∧ y1 ≤ 9223372036854775807) ∧ (-9223372036854775808 ≤ y2 ∧ y2 ≤ 9223372036854775807)) : Bd2 (c.L ++ [(y1, y2)]) := by
  intro x hx
  rcases List.mem_append.mp hx with hx | hx
  · have := ok.leaps.each x hx; omega
  · simp at hx; subst hx; exact h
/-- x.Add where the answer is an error. -/
theorem ladd_no (g : Nat) (c : LT) (y1 y2 ex : Int) (w : World) (h : c.at w g) (ok : c.ok) (hy : (-9223372036854775808 ≤ y1 ∧ y1 ≤ 9223372036854775807) ∧ (-9223372036854775808 ≤ y2 ∧ y2 ≤ 9223372036854775807)) (hs : addS c y1 y2 ex ≠ 0) :
    Calls Try.prog 23 #[.pointer (some ⟨g, 0, none⟩), .agg #[.int .i64 y1, .int .i64 y2], .int .i64 ex] w fun e w' => e = .returned (.int .i64 (addS c y1 y2 ex)) ∧ Stp [] w w' := by
  unfold addS at hs ⊢
  by_cases h1 : newS (c.L.length + 1) (c.L ++ [(y1, y2)]) ex c.base = 0
  · have h2 : ¬ newS (c.L.length + 1) (c.L ++ [(y1, y2)]) ex c.base ≠ 0 := fun h => h h1
    rw [if_neg h2] at hs ⊢
    by_cases h3 : ex < c.ex
    · rw [if_pos h3]
      exact ladd_late g c y1 y2 ex w h ok (newS_zero (by simp) h1) h3
    · rw [if_neg h3] at hs
      exact absurd rfl hs
  · rw [if_pos h1]
    exact ladd_err g c y1 y2 ex _ w h1 h ok (fun w A cp hr => lnew_err A (c.L.length + 1) cp (c.L ++ [(y1, y2)]) ex c.base w (by rw [pcells_append]; exact hr) (by simp) (by have := ok.leaps.len; omega) (more_bd ok hy) h1)
theorem radd_no (g : Nat) (c : LT) (y1 y2 ex : Int) (w : World) (h : c.rat w g) (ok : c.ok) (hy : (-9223372036854775808 ≤ y1 ∧ y1 ≤ 9223372036854775807) ∧ (-9223372036854775808 ≤ y2 ∧ y2 ≤ 9223372036854775807)) (hs : addS c y1 y2 ex ≠ 0) :
    Calls Try.prog 24 #[.pointer (some ⟨g, 0, none⟩), .agg #[.int .i64 y1, .int .i64 y2], .int .i64 ex] w fun e w' => e = .returned (.int .i64 (addS c y1 y2 ex)) ∧ Stp [] w w' := by
  unfold addS at hs ⊢
  by_cases h1 : newS (c.L.length + 1) (c.L ++ [(y1, y2)]) ex c.base = 0
  · have h2 : ¬ newS (c.L.length + 1) (c.L ++ [(y1, y2)]) ex c.base ≠ 0 := fun h => h h1
    rw [if_neg h2] at hs ⊢
    by_cases h3 : ex < c.ex
    · rw [if_pos h3]
      exact radd_late g c y1 y2 ex w h ok (newS_zero (by simp) h1) h3
    · rw [if_neg h3] at hs
      exact absurd rfl hs
  · rw [if_pos h1]
    exact radd_err g c y1 y2 ex _ w h1 h ok (fun w A cp hr => rlnew_err A (c.L.length + 1) cp (c.L ++ [(y1, y2)]) ex c.base w (by rw [pcells_append]; exact hr) (by simp) (by have := ok.leaps.len; omega) (more_bd ok hy) h1)
theorem add_zero {c : LT} {y1 y2 ex : Int} (h : addS c y1 y2 ex = 0) : (c.more y1 y2 ex).ok ∧ c.ex ≤ ex := by
  unfold addS at h
  by_cases h1 : newS (c.L.length + 1) (c.L ++ [(y1, y2)]) ex c.base = 0
  · have h2 : ¬ newS (c.L.length + 1) (c.L ++ [(y1, y2)]) ex c.base ≠ 0 := fun h => h h1
    rw [if_neg h2] at h
    refine ⟨newS_zero (by simp) h1, ?_⟩
    by_cases h3 : ex < c.ex
    · rw [if_pos h3] at h; simp at h
    · omega
  · rw [if_pos h1] at h
    exact absurd h h1
/-- Any Add changes the table alone. -/
theorem ladd_some (g : Nat) (c : LT) (y1 y2 ex : Int) (w : World) (h : c.at w g) (ok : c.ok) (hy : (-9223372036854775808 ≤ y1 ∧ y1 ≤ 9223372036854775807) ∧ (-9223372036854775808 ≤ y2 ∧ y2 ≤ 9223372036854775807)) :
    Calls Try.prog 23 #[.pointer (some ⟨g, 0, none⟩), .agg #[.int .i64 y1, .int .i64 y2], .int .i64 ex] w fun e w' => e = .returned (.int .i64 (addS c y1 y2 ex)) ∧ Stp [g] w w' := by
  by_cases hs : addS c y1 y2 ex = 0
  · rw [hs]
    obtain ⟨o1, o2⟩ := add_zero hs
    exact (ladd_ok g c y1 y2 ex w h ok o1 o2).mono fun e w' ⟨h1, _, h3⟩ => ⟨h1, h3⟩
  · exact (ladd_no g c y1 y2 ex w h ok hy hs).mono fun e w' ⟨h1, h3⟩ => ⟨h1, h3.of_nil⟩

theorem Stp.of_drew {G : List Nat} {w w' : World} (h : Stp G w.drew w') : Stp G w w' := ⟨h.os, h.tape, h.output, h.size, h.block⟩
/-- A list of one's own, and its block. -/
theorem cloned_form {n : Nat} {xs : List Value} {w w' : World} {e : Ending} (h : Cloned n xs w e w') :
    ∃ A cap, e = .returned (.slice A n cap) ∧ n ≤ cap ∧ cap ≤ maxLen ∧ Stp [] w w' ∧ (0 < n → ∃ (b : Nat) (cur : Array Value), A = some ⟨b, 0, none⟩ ∧ w.heap.size ≤ b ∧ w'.heap[b]? = some (.cells cur 34 (0, 0)) ∧ n * 2 ≤ cur.size ∧ ∀ j, j < n * 2 → cur[j]? = xs[j]?) := by
  obtain ⟨v, rfl, own, st⟩ := h
  rcases own.2 with ⟨rfl, rfl⟩ | ⟨g, cap, cur, rfl, hb, hh, hn, hc, hs, ht⟩
  · exact ⟨none, 0, rfl, by omega, by unfold maxLen; omega, st, fun h => by omega⟩
  · refine ⟨_, cap, rfl, hn, hc, st, fun _ => ⟨g, cur, rfl, hb, hh, by have := Nat.mul_le_mul_right 2 hn; omega, fun j hj => ?_⟩⟩
    rw [← ht, List.getElem?_take, if_pos hj]
    simp

set_option maxRecDepth 100000 in
set_option maxHeartbeats 4000000 in
theorem leapTells_walk (A : Option Addr) (n c0 : Nat) (l : List (Int × Int)) (ex base : Int) (B : Option Addr) (m c1 : Nat) (ts : List Int) (C : Option Addr) (p c2 : Nat) (mo : List (Int × Int)) (w : World)
    (hcap : n ≤ c0 ∧ c0 ≤ maxLen) (hr : Reads w w.heap.size 2 A n (l.flatMap fun t => [.int .i64 t.1, .int .i64 t.2])) (hl : l.length = n) (hn : n * 16 ≤ 140737488351232) (hw : Bd2 l)
    (hex : -9223372036854775808 ≤ ex ∧ ex ≤ 9223372036854775807) (hbase : -9223372036854775808 ≤ base ∧ base ≤ 9223372036854775807)
    (hrt : Reads w w.heap.size 1 B m (ts.map (Value.int .i64))) (hlt : ts.length = m) (hmt : m * 8 ≤ 140737488351232) (hwt : ∀ x ∈ ts, -9223372036854775808 ≤ x ∧ x ≤ 9223372036854775807)
    (hrm : Reads w w.heap.size 2 C p (mo.flatMap fun t => [.int .i64 t.1, .int .i64 t.2])) (hlm : mo.length = p) (hpm : p * 16 ≤ 140737488351232) (hwm : Bd2 mo) :
    Calls Try.prog 7 #[.slice A n c0, .int .i64 ex, .int .i64 base, .slice B m c1, .slice C p c2] w fun e w' => e = .returned (.bool true) ∧ Stp [] w w' := by
  have RL := Lib.hid (RowIn.of_reads (G := []) (show Reads w w.heap.size 2 A n (pcells l) from hr) (Nat.le_refl _) (by simp) (by decide))
  have RT := Lib.hid (RowIn.of_reads (G := []) hrt (Nat.le_refl _) (by simp) (by decide))
  have RM := Lib.hid (RowIn.of_reads (G := []) (show Reads w w.heap.size 2 C p (pcells mo) from hrm) (Nat.le_refl _) (by simp) (by decide))
  obtain ⟨i0, hi, hz0, hz1, hz2⟩ := info_parts leap_info
  obtain ⟨n', hn'⟩ : ∃ n', min n 40 = n' := ⟨_, rfl⟩
  have RL2 := Lib.hid (row2_take RL.out hl (show n' ≤ n by omega))
  obtain ⟨L, hL⟩ : ∃ L, l.take n' = L := ⟨_, rfl⟩
  rw [hL] at RL2
  have hLl : L.length = n' := by rw [← hL]; simp; omega
  have hLb : Bd2 L := fun x hx => hw x (by rw [← hL] at hx; exact List.mem_of_mem_take hx)
  have n40 : n' ≤ 40 := by omega
  have hnc : n' ≤ c0 := by omega
  have hmin : n ≤ 40 ∧ n' = n ∨ ¬ n ≤ 40 ∧ n' = 40 := by omega
  obtain ⟨hcap0, hcap1⟩ := hcap
  unfold maxLen at hcap1
  have F := Lib.hid (And.intro hLl (And.intro hLb (And.intro hwt (And.intro hwm (And.intro hlt hlm)))))
  clear hr hrt hrm hw hwt hwm hL hLb RL hLl hlt hlm
  have hmi : min (n : Int) 40 = (n' : Int) := by omega
  have hnn : n' ≤ n := by omega
  clear hmin hn'
  by_cases he : newS n' L ex base = 0
  · have ok : (LT.mk L ex base).ok := newS_zero F.out.1 he
    have NX := Lib.hid (fun (w' : World) (A' : Option Addr) (cp' : Nat) (hr : RowIn w' A' n' 2 (pcells L) []) => lnew_fresh A' n' cp' ⟨L, ex, base⟩ w' hr F.out.1 ok)
    have NR := Lib.hid (fun (w' : World) (hs : Stp [] w w') => rlnew_ok A n' c0 ⟨L, ex, base⟩ w' (row_stp RL2.out hs) F.out.1 ok)
    have OK0 := Lib.hid ok
    clear he ok
    go_enter Try.func7, Try.ntmps7
    go_wp2_with (at_builtin; refine wpList_append_any _ rfl _ _ 30 rfl w.heap.size 34 i0 (.agg #[.int .i64 0, .int .i64 0]) 2 16 Try.underlying30 hi hz0 hz1 hz2 rfl (by decide) _ 0 [] rfl (World.ownsRow_nil _ _ _ _) w.heap.size A n' c0 (pcells L) rfl RL2.out.reads (pcells_one L) (by unfold maxLen; omega) (by omega) (Nat.le_refl _) ?_)
    intro v1 w1 own1 grow1 _
    have s1 : Stp [] w w1 := (Stp.refl [] w).grown grow1 (fun k hk => by simp [Value.ownBlock] at hk)
    have fm := own1.2
    have ob1 := fun k hk => own_base (k := k) own1 hk
    obtain ⟨A1, cp1, rfl, k1, k1', row1⟩ := own_form (G := []) own1 (by simp)
    go_wp2_with fail
    refine (NX.out _ _ _ row1).mono ?_
    rintro e w2 ⟨gx, Ax, cpx, rfl, hx, kx, kx', rx, fx, sx, zx⟩
    go_wp2_with fail
    refine (NR.out _ (s1.trans sx)).mono ?_
    rintro e w3 ⟨gr, Ar, cpr, rfl, hr, kr, kr', rr, fr, sr, zr⟩
    have szx := sx.size
    have szr := sr.size
    have sz1 := s1.size
    have gxlt : gx < w2.heap.size := lt_of_at hx
    have XG : (LT.mk L ex base).atG w3 gx [gx, gr] := ⟨Ax, cpx, sr.at hx (by simp), kx, kx', row_stp ⟨rx.1, fun hn => by
      obtain ⟨b, off, e, hb, _, hc⟩ := rx.2 hn
      have f1 := (fx _ e).2
      simp only at f1
      refine ⟨b, off, e, hb, ?_, hc⟩
      simp
      omega⟩ sr⟩
    have RG : (LT.mk L ex base).ratG w3 gr [gr, gx] := ⟨Ar, cpr, hr, kr, kr', ⟨rr.1, fun hn => by
      obtain ⟨b, off, e, hb, _, hc⟩ := rr.2 hn
      have f1 := fr _ e
      simp only at f1
      refine ⟨b, off, e, hb, ?_, hc⟩
      simp
      omega⟩⟩
    have OWN : Hid (0 < n' → ∃ (b1 : Nat) (cur : Array Value), A1 = some ⟨b1, 0, none⟩ ∧ w3.heap[b1]? = some (.cells cur 34 (0, 0)) ∧ n' * 2 ≤ cur.size ∧ w.heap.size ≤ b1 ∧ (LT.mk L ex base).atG w3 gx [gx, gr, b1] ∧ (LT.mk L ex base).ratG w3 gr [gr, gx, b1] ∧ gx ≠ b1 ∧ gr ≠ b1) := by
      intro hn0
      rcases fm with ⟨h, _⟩ | ⟨b1, cap, cur, h, hb, hh, hnc, hcm, hs, ht⟩
      · injection h with h1 h2 h3
        omega
      · injection h with h1 h2 h3
        have hb1 := lt_of_at hh
        refine ⟨b1, cur, h1, (sx.trans sr).at hh (by simp), ?_, hb, ⟨Ax, cpx, sr.at hx (by simp), kx, kx', row_stp ⟨rx.1, fun hn => ?_⟩ sr⟩, ⟨Ar, cpr, hr, kr, kr', ⟨rr.1, fun hn => ?_⟩⟩, by omega, by omega⟩
        · have := Nat.mul_le_mul_right 2 hnc
          omega
        · obtain ⟨b, off, e, hb, _, hc⟩ := rx.2 hn
          have f1 := fx _ e
          simp only at f1
          refine ⟨b, off, e, hb, ?_, hc⟩
          simp
          omega
        · obtain ⟨b, off, e, hb, _, hc⟩ := rr.2 hn
          have f1 := fr _ e
          simp only at f1
          refine ⟨b, off, e, hb, ?_, hc⟩
          simp
          omega
    have ST := Lib.hid (And.intro XG (And.intro RG (And.intro ((s1.trans sx).trans sr) OWN.out)))
    have gg : gx ≠ gr := by omega
    have HGG := Lib.hid (show w.heap.size ≤ gx ∧ w.heap.size ≤ gr by omega)
    clear XG RG OWN fm own1 row1 grow1 hx kx kx' rx fx sx zx hr kr kr' rr fr sr zr s1 k1 k1' ob1 NX NR szx szr sz1 gxlt
    go_wp2_with fail
    go_loopw [16] (fun i wr => ∃ k : Nat, k ≤ n' ∧ i = .int .i64 k ∧ Hid ((LT.mk L ex base).atG wr gx [gx, gr] ∧ (LT.mk L ex base).ratG wr gr [gr, gx] ∧ Stp [] w wr ∧ (0 < n' → ∃ (b1 : Nat) (cur : Array Value), A1 = some ⟨b1, 0, none⟩ ∧ wr.heap[b1]? = some (.cells cur 34 (0, 0)) ∧ n' * 2 ≤ cur.size ∧ w.heap.size ≤ b1 ∧ (LT.mk L ex base).atG wr gx [gx, gr, b1] ∧ (LT.mk L ex base).ratG wr gr [gr, gx, b1] ∧ gx ≠ b1 ∧ gr ≠ b1))) (fun i _ => n' - (intOf i).toNat)
    case atStart => exact ⟨0, Nat.zero_le _, rfl, ST⟩
    case round =>
      obtain ⟨k, hk, rfl, H⟩ := hrel
      clear ST
      by_cases hlt : k < n'
      · obtain ⟨b1, cur, rfl, hh, hsz, hwb, hXG, hRG, n1, n2⟩ := H.out.2.2.2 (by omega)
        have q0 := cell_at hh (k * 2)
        have q1 := cell_at hh (k * 2 + 1)
        rw [Array.getElem?_eq_getElem (by omega)] at q0 q1
        have f0 := free_at hh (k * 2)
        have f1 := free_at hh (k * 2 + 1)
        have gs : Stp [b1] wr ((wr.setCell ⟨b1, k * 2, none⟩ (.int .i64 5)).setCell ⟨b1, k * 2 + 1, none⟩ (.int .i64 7)) := ((Stp.refl _ wr).setCell (p := ⟨b1, k * 2, none⟩) (.inl (by simp)) _).setCell (p := ⟨b1, k * 2 + 1, none⟩) (.inl (by simp)) _
        have fin := set_at (set_at hh (k * 2) (.int .i64 5)) (k * 2 + 1) (.int .i64 7)
        have x2 := hXG.out1 (by simp) n1 gs
        have r2 := hRG.out1 (by simp) n2 gs
        have N := Lib.hid (show (LT.mk L ex base).atG ((wr.setCell ⟨b1, k * 2, none⟩ (.int .i64 5)).setCell ⟨b1, k * 2 + 1, none⟩ (.int .i64 7)) gx [gx, gr] ∧ (LT.mk L ex base).ratG ((wr.setCell ⟨b1, k * 2, none⟩ (.int .i64 5)).setCell ⟨b1, k * 2 + 1, none⟩ (.int .i64 7)) gr [gr, gx] ∧ Stp [] w ((wr.setCell ⟨b1, k * 2, none⟩ (.int .i64 5)).setCell ⟨b1, k * 2 + 1, none⟩ (.int .i64 7)) ∧ (0 < n' → ∃ (b1' : Nat) (cur' : Array Value), some (⟨b1, 0, none⟩ : Addr) = some ⟨b1', 0, none⟩ ∧ ((wr.setCell ⟨b1, k * 2, none⟩ (.int .i64 5)).setCell ⟨b1, k * 2 + 1, none⟩ (.int .i64 7)).heap[b1']? = some (.cells cur' 34 (0, 0)) ∧ n' * 2 ≤ cur'.size ∧ w.heap.size ≤ b1' ∧ (LT.mk L ex base).atG ((wr.setCell ⟨b1, k * 2, none⟩ (.int .i64 5)).setCell ⟨b1, k * 2 + 1, none⟩ (.int .i64 7)) gx [gx, gr, b1'] ∧ (LT.mk L ex base).ratG ((wr.setCell ⟨b1, k * 2, none⟩ (.int .i64 5)).setCell ⟨b1, k * 2 + 1, none⟩ (.int .i64 7)) gr [gr, gx, b1'] ∧ gx ≠ b1' ∧ gr ≠ b1') from
          ⟨by obtain ⟨A, cp, h1, h2, h3, h4⟩ := x2; exact ⟨A, cp, h1, h2, h3, h4.less (by simp)⟩, by obtain ⟨A, cp, h1, h2, h3, h4⟩ := r2; exact ⟨A, cp, h1, h2, h3, h4.less (by simp)⟩, H.out.2.2.1.far gs (.inr hwb), fun _ => ⟨b1, _, rfl, fin, by simpa using hsz, hwb, x2, r2, n1, n2⟩⟩)
        clear gs fin x2 r2 hXG hRG hh H
        generalize cur[k * 2]'(by omega) = c1' at q0
        generalize cur[k * 2 + 1]'(by omega) = c2' at q1
        go_wp2_with fail
        go_roundw
        case rel => exact ⟨k + 1, by omega, by go_num, N⟩
        case measure => simp [intOf]; omega
      · have HX := Lib.hid (And.intro H.out.1 (And.intro H.out.2.1 (And.intro H.out.2.2.1 OK0.out)))
        have HGX : Hid (w.heap.size ≤ gx ∧ w.heap.size ≤ gr) := HGG
        have ex0 : 0 ≤ ex := OK0.out.e0
        have ex1 : ex ≤ 4611686018427387904 := OK0.out.e1
        clear H OK0
        go_wp2_with fail
        go_loopw [17] (fun i wr => ∃ (k : Nat) (c : LT), k ≤ p ∧ k ≤ 6 ∧ i = .int .i64 k ∧ Hid (c.atG wr gx [gx, gr] ∧ c.ratG wr gr [gr, gx] ∧ Stp [] w wr ∧ c.ok)) (fun i _ => 7 - (intOf i).toNat)
        case atStart => exact ⟨0, ⟨L, ex, base⟩, Nat.zero_le _, by omega, rfl, HX⟩
        case round =>
          obtain ⟨k, c, hkp, hk6, rfl, H⟩ := hrel
          clear HX
          obtain ⟨wo, hwo⟩ : ∃ wo, wo = wr := ⟨_, rfl⟩
          subst hwo
          have hk6i : (k : Int) ≤ 6 := by omega
          have hkpi : (k : Int) ≤ (p : Int) := by omega
          go_upto_block 4 with (fail)
          go_cut [] from 71 to 171 (fun wc => Hid (Stp [] wo wc))
          case first =>
            go_wp2_with fail
            go_loopw [18] (fun i wr => ∃ j : Nat, j ≤ m ∧ j ≤ 6 ∧ i = .int .i64 j ∧ Hid (Stp [] wo wr)) (fun i _ => m - (intOf i).toNat)
            case atStart => exact ⟨0, Nat.zero_le _, by omega, rfl, Lib.hid (Stp.refl _ _)⟩
            case round =>
              obtain ⟨j, hj, hj6, rfl, HT⟩ := hrel
              by_cases hjm : j < m
              · by_cases h6 : j = 6
                · have h6' : ¬ (j : Int) < 6 := by omega
                  clear h6 hj6
                  go_wp2_with fail
                  go_meet
                  exact HT
                · obtain ⟨b, off, rfl, hbb, _, hcell⟩ := RT.out.2 (by omega)
                  have hjl : j < ts.length := by rw [F.out.2.2.2.2.1]; exact hjm
                  have hjl2 : m - 1 - j < ts.length := by rw [F.out.2.2.2.2.1]; omega
                  have hsW := H.out.2.2.1.trans HT.out
                  have q1 : wr.cell? ⟨b, off + j, none⟩ = some (.int .i64 ts[j]) := hsW.cell (hcell j _ (by rw [List.getElem?_map, List.getElem?_eq_getElem hjl]; rfl)) (by simp)
                  have q2 : wr.cell? ⟨b, off + (m - 1 - j), none⟩ = some (.int .i64 ts[m - 1 - j]) := hsW.cell (hcell (m - 1 - j) _ (by rw [List.getElem?_map, List.getElem?_eq_getElem hjl2]; rfl)) (by simp)
                  obtain ⟨j', hj'⟩ : ∃ j', j' = m - 1 - j := ⟨_, rfl⟩
                  have e1 : (m : Int) - 1 - (j : Int) = (j' : Int) := by omega
                  generalize ts[j] = t1 at *
                  generalize ts[m - 1 - j] = t2 at *
                  rw [← hj'] at q2
                  have hjm' : j' < m := by omega
                  clear hj'
                  have SM := Lib.hid (fun (w' : World) (hs : Stp [] wo w') => same_any gx gr c t1 t2 w' ((H.out.1.stp hs).at (by simp)) ((H.out.2.1.stp hs).rat (by simp)) H.out.2.2.2)
                  have wz1 : IntKind.i64.wrap ((m : Int) - 1) = (m : Int) - 1 := IntWalk.i64_in _ (by omega)
                  have wz2 : IntKind.i64.wrap (j' : Int) = (j' : Int) := IntWalk.i64_in _ (by omega)
                  have hj0' : (0 : Int) ≤ (j' : Int) := by omega
                  have hjm2 : (j' : Int) < (m : Int) := by omega
                  have hj00 : (0 : Int) ≤ (j : Int) := by omega
                  have hjmi : (j : Int) < (m : Int) := by omega
                  clear hcell hsW
                  have q1d : wr.drew.cell? ⟨b, off + j, none⟩ = some (.int .i64 t1) := q1
                  have q2d : wr.drew.cell? ⟨b, off + j', none⟩ = some (.int .i64 t2) := q2
                  go_wp2_with fail
                  go_region_held3 (fun w' => w'.cell? ⟨b, off + j, none⟩ = some (.int .i64 t1) ∧ w'.cell? ⟨b, off + j', none⟩ = some (.int .i64 t2))
                    (first | exact ⟨q1d, q2d⟩ | exact ⟨s9.cell q1 (by simp), s9.cell q2 (by simp)⟩)
                    (first | (go_at_call 20; refine (SM.out _ (by first | exact HT.out | exact HT.out.drew)).mono ?_; rintro e w9 ⟨rfl, s9'⟩; have s9 : Stp [] wr w9 := (by first | exact s9' | exact ⟨s9'.os, s9'.tape, s9'.output, s9'.size, s9'.block⟩)))
                  all_goals
                    go_wp2_with fail
                    go_roundw
                    case rel => exact ⟨j + 1, by omega, by omega, by go_num, Lib.hid (HT.out.trans s9)⟩
                    case measure => simp [intOf]; omega
              · obtain rfl : j = m := by omega
                go_wp2_with fail
                go_meet
                exact HT
          case rest =>
            obtain ⟨w1, hw1⟩ : ∃ w1, w1 = wc := ⟨_, rfl⟩
            subst hw1
            have XG := H.out.1.stp hcut.out
            have RG := H.out.2.1.stp hcut.out
            have TT := H.out.2.2.1.trans hcut.out
            have OK := H.out.2.2.2
            have LI := llist_any gx c w1 (XG.at (by simp)) (by have := OK.leaps.len; omega)
            clear H hcut
            go_wp2_with fail
            refine LI.mono ?_
            rintro e w2 hcl
            obtain ⟨A9, c9, rfl, k9, k9', s9, f9⟩ := cloned_form hcl
            obtain ⟨Ar, cpr, hr0, kr, kr', rowr⟩ := RG.stp s9
            have y0 := cell_at hr0 0
            have hlen40 : c.L.length ≤ 40 := by have := OK.leaps.len; omega
            have Z := Lib.hid (And.intro XG (And.intro RG (And.intro TT OK)))
            have RR := Lib.hid rowr
            have F9 := Lib.hid f9
            have S9 := Lib.hid s9
            clear XG RG TT OK LI hr0 rowr f9 hcl s9
            simp at y0
            generalize hN : c.L.length = N at *
            go_wp2_with fail
            go_loopw [20] (fun i wr => ∃ j : Nat, j ≤ N ∧ i = .int .i64 j ∧ Hid (Stp [] w1 wr ∧ (0 < N → ∃ (b : Nat) (cur : Array Value), A9 = some ⟨b, 0, none⟩ ∧ w1.heap.size ≤ b ∧ wr.heap[b]? = some (.cells cur 34 (0, 0)) ∧ N * 2 ≤ cur.size ∧ ∀ i, j * 2 ≤ i → i < N * 2 → cur[i]? = (pcells c.L)[i]?))) (fun i _ => N - (intOf i).toNat)
            case atStart => exact ⟨0, Nat.zero_le _, rfl, Lib.hid (And.intro S9.out (fun h => by obtain ⟨b, cur, e, hb, hh, hs, hc⟩ := F9.out h; exact ⟨b, cur, e, hb, hh, hs, fun i _ hi => hc i hi⟩))⟩
            case round =>
              obtain ⟨j, hj, rfl, HJ⟩ := hrel
              clear S9 F9 RR y0
              by_cases hjN : j < N
              · obtain ⟨b, cur, rfl, hb, hh, hs, hc⟩ := HJ.out.2 (by omega)
                obtain ⟨Ar2, cpr2, hr2, kr2, kr2', row2⟩ := Z.out.2.1.stp HJ.out.1
                rw [hN] at hr2 kr2 row2
                have y0 := cell_at hr2 0
                simp at y0
                obtain ⟨b', off', rfl, hb', _, hc'⟩ := row2.2 (by omega)
                have hjl : j < c.L.length := by omega
                have pg := pcells_get c.L j hjl
                have q0 := cell_at hh (j * 2)
                have q1 := cell_at hh (j * 2 + 1)
                rw [hc (j * 2) (Nat.le_refl _) (by omega), pg.1] at q0
                rw [hc (j * 2 + 1) (by omega) (by omega), pg.2] at q1
                have p0 := hc' _ _ pg.1
                have p1 : wr.cell? ⟨b', off' + j * 2 + 1, none⟩ = some (.int .i64 c.L[j].2) := hc' _ _ pg.2
                have f0 := free_at hh (j * 2)
                have fin := set_at hh (j * 2) (.int .i64 3)
                have NX : Hid (∀ n, Stp [] w1 ((wr.drewN n).setCell ⟨b, j * 2, none⟩ (.int .i64 3)) ∧ (0 < N → ∃ (b2 : Nat) (cur : Array Value), some (⟨b, 0, none⟩ : Addr) = some ⟨b2, 0, none⟩ ∧ w1.heap.size ≤ b2 ∧ ((wr.drewN n).setCell ⟨b, j * 2, none⟩ (.int .i64 3)).heap[b2]? = some (.cells cur 34 (0, 0)) ∧ N * 2 ≤ cur.size ∧ ∀ i, (j + 1) * 2 ≤ i → i < N * 2 → cur[i]? = (pcells c.L)[i]?)) := fun n =>
                  ⟨(HJ.out.1.drewN n).far ((Stp.refl [b] _).setCell (p := ⟨b, j * 2, none⟩) (.inl (by simp)) _) (.inr hb), fun _ => ⟨b, _, rfl, hb, set_at (w := wr.drewN n) hh (j * 2) (.int .i64 3), by simpa using hs, fun i hi hiN => by
                    rw [Array.getElem?_setIfInBounds_ne (by omega)]
                    exact hc i (by omega) hiN⟩⟩
                have hji : (j : Int) < (N : Int) := by omega
                clear hc hc' hr2 row2 pg fin hh HJ
                generalize c.L[j] = t at *
                obtain ⟨a1, a2⟩ := t
                simp only at q0 q1 p0 p1
                go_wp2_with fail
                go_quiet (fail)
                go_wp2_with fail
                go_roundw
                case rel => exact ⟨j + 1, by omega, by go_num, Lib.hid (NX.out _)⟩
                case measure => simp [intOf]; omega
              · have XG := Z.out.1.stp HJ.out.1
                have RG := Z.out.2.1.stp HJ.out.1
                have TT := Z.out.2.2.1.trans HJ.out.1
                have OK := Z.out.2.2.2
                clear Z HJ
                by_cases e1 : k = p
                · have e1' : ((k : Int) == (p : Int)) = true := by simp; omega
                  clear e1
                  go_wp2_with fail
                  refine (alive_any _).mono ?_
                  rintro e w9 ⟨rfl, t9⟩
                  go_wp2_with fail
                  go_ret
                  exact ⟨rfl, TT.trans t9⟩
                · by_cases e2 : k = 6
                  · have e1' : ((k : Int) == (p : Int)) = false := by simp; omega
                    have e2' : ((k : Int) == 6) = true := by simp; omega
                    clear e1 e2
                    go_wp2_with fail
                    refine (alive_any _).mono ?_
                    rintro e w9 ⟨rfl, t9⟩
                    go_wp2_with fail
                    go_ret
                    exact ⟨rfl, TT.trans t9⟩
                  · have e1' : ((k : Int) == (p : Int)) = false := by simp; omega
                    have e2' : ((k : Int) == 6) = false := by simp; omega
                    have hkp' : k < p := by omega
                    have hk6' : k < 6 := by omega
                    clear e1 e2
                    obtain ⟨r, hr⟩ : ∃ r, (k : Int).tmod 3 = r := ⟨_, rfl⟩
                    have hr0 : 0 ≤ r ∧ r < 3 := by rw [← hr, Int.tmod_eq_emod_of_nonneg (by omega)]; omega
                    obtain ⟨r0, r1⟩ := hr0
                    obtain ⟨th, hth⟩ : ∃ th, ex + r * 1000 = th := ⟨_, rfl⟩
                    have hgx : w.heap.size ≤ gx := HGX.out.1
                    have hgr : w.heap.size ≤ gr := HGX.out.2
                    obtain ⟨b, off, rfl, hbb, _, hcell⟩ := RM.out.2 (by omega)
                    have hkl : k < mo.length := by rw [F.out.2.2.2.2.2]; exact hkp'
                    have pg := pcells_get mo k hkl
                    have Q0 := hcell _ _ pg.1
                    have Q1 := hcell _ _ pg.2
                    have hy := F.out.2.2.2.1 mo[k] (List.getElem_mem _)
                    clear hcell pg
                    generalize mo[k] = y at *
                    obtain ⟨y1, y2⟩ := y
                    simp only at Q0 Q1 hy
                    go_wp2_with fail
                    refine (lcopy_any gx c _ (XG.at (by simp)) OK).mono ?_
                    rintro e w4 ⟨gc, rfl, ac, sc, hgc⟩
                    go_wp2_with fail
                    refine (ladd_some gc c 4611686018427387904 1 4611686018427387904 _ ac OK (by decide)).mono ?_
                    rintro e w5 ⟨rfl, s5⟩
                    have S5 := (sc.far s5 (.inr hgc))
                    have XG5 := XG.stp S5
                    have RG5 := RG.stp S5
                    have TT5 := TT.trans S5
                    have q0 : w5.cell? ⟨b, off + k * 2, none⟩ = some (.int .i64 y1) := TT5.cell Q0 (by simp)
                    have q1 : w5.cell? ⟨b, off + k * 2 + 1, none⟩ = some (.int .i64 y2) := TT5.cell Q1 (by simp)
                    have q0d : w5.drew.cell? ⟨b, off + k * 2, none⟩ = some (.int .i64 y1) := q0
                    have q1d : w5.drew.cell? ⟨b, off + k * 2 + 1, none⟩ = some (.int .i64 y2) := q1
                    have hlt5 : gx < w5.heap.size ∧ gr < w5.heap.size := ⟨by obtain ⟨_, _, h, _⟩ := XG5; exact lt_of_at h, by obtain ⟨_, _, h, _⟩ := RG5; exact lt_of_at h⟩
                    clear XG RG TT sc s5 S5 ac hgc Q0 Q1
                    have hki : (k : Int) < (p : Int) := by omega
                    go_wp2_with fail
                    by_cases hs : addS c y1 y2 th = 0
                    · obtain ⟨o1, o2⟩ := add_zero hs
                      have G1 := Lib.hid (fun (w' : World) (h : c.atG w' gx [gx, gr]) (hb : gx < w'.heap.size ∧ gr < w'.heap.size) => ladd_okG gx [gx, gr] (by simp) c y1 y2 th w' (h.at (by simp)) OK o1 o2 (by simp; omega))
                      have G2 := Lib.hid (fun (w' : World) (h : c.ratG w' gr [gr, gx]) (hb : gx < w'.heap.size ∧ gr < w'.heap.size) => radd_okG gr [gr, gx] (by simp) c y1 y2 th w' (h.rat (by simp)) OK o1 o2 (by simp; omega))
                      clear hs
                      go_region_held3 (fun w' => w'.cell? ⟨b, off + k * 2, none⟩ = some (.int .i64 y1) ∧ w'.cell? ⟨b, off + k * 2 + 1, none⟩ = some (.int .i64 y2))
                        (first | exact ⟨q0d, q1d⟩ | exact ⟨s6.cell q0 (by simp; omega), s6.cell q1 (by simp; omega)⟩ | exact ⟨s7.cell (s6.cell q0 (by simp; omega)) (by simp; omega), s7.cell (s6.cell q1 (by simp; omega)) (by simp; omega)⟩)
                        (first
                          | (go_at_call 23; refine (G1.out _ (by exact XG5) (by exact hlt5)).mono ?_; rintro e v1 ⟨rfl, a6, s6'⟩; have s6 : Stp [gx] w5 v1 := (by first | exact s6' | exact s6'.of_drew); have hlt6 := s6.size; have RG6 := RG5.out1 (by simp) gg.symm s6)
                          | (go_at_call 24; refine (G2.out _ (by exact RG6) (by omega)).mono ?_; rintro e v2 ⟨rfl, r7, s7'⟩; have s7 : Stp [gr] v1 v2 := (by first | exact s7' | exact s7'.of_drew)))
                      all_goals
                        have NX := Lib.hid (And.intro (a6.out1 (by simp) gg s7) (And.intro r7 (And.intro ((TT5.far s6 (.inr hgx)).far s7 (.inr hgr)) o1)))
                        go_wp2_with fail
                        go_roundw
                        case rel => exact ⟨k + 1, _, by omega, by omega, by go_num, NX⟩
                        case measure => simp [intOf]; omega
                    · have G1 := Lib.hid (fun (w' : World) (h : c.atG w' gx [gx, gr]) => ladd_no gx c y1 y2 th w' (h.at (by simp)) OK hy hs)
                      have G2 := Lib.hid (fun (w' : World) (h : c.ratG w' gr [gr, gx]) => radd_no gr c y1 y2 th w' (h.rat (by simp)) OK hy hs)
                      clear hs
                      generalize addS c y1 y2 th = er at *
                      go_region_held3 (fun w' => w'.cell? ⟨b, off + k * 2, none⟩ = some (.int .i64 y1) ∧ w'.cell? ⟨b, off + k * 2 + 1, none⟩ = some (.int .i64 y2))
                        (first | exact ⟨q0d, q1d⟩ | exact ⟨s6.cell q0 (by simp), s6.cell q1 (by simp)⟩ | exact ⟨s7.cell (s6.cell q0 (by simp)) (by simp), s7.cell (s6.cell q1 (by simp)) (by simp)⟩)
                        (first
                          | (go_at_call 23; refine (G1.out _ (by exact XG5)).mono ?_; rintro e v1 ⟨rfl, s6'⟩; have s6 : Stp [] w5 v1 := (by first | exact s6' | exact s6'.of_drew); have RG6 := RG5.stp s6)
                          | (go_at_call 24; refine (G2.out _ (by exact RG6)).mono ?_; rintro e v2 ⟨rfl, s7'⟩; have s7 : Stp [] v1 v2 := (by first | exact s7' | exact s7'.of_drew)))
                      all_goals
                        have NX := Lib.hid (And.intro ((XG5.stp s6).stp s7) (And.intro (RG6.stp s7) (And.intro ((TT5.trans s6).trans s7) OK)))
                        go_wp2_with fail
                        go_roundw
                        case rel => exact ⟨k + 1, _, by omega, by omega, by go_num, NX⟩
                        case measure => simp [intOf]; omega
  · have NX := Lib.hid (fun (w' : World) (A' : Option Addr) (cp' : Nat) (hr : RowIn w' A' n' 2 (pcells L) []) => lnew_err A' n' cp' L ex base w' hr F.out.1 (by omega) F.out.2.1 he)
    have NR := Lib.hid (fun (w' : World) (hs : Stp [] w w') => rlnew_err A n' c0 L ex base w' (row_stp RL2.out hs) F.out.1 (by omega) F.out.2.1 he)
    generalize newS n' L ex base = er at *
    have hne1 : (er == 0) = false := by simp [he]
    have hne2 : (er != 0) = true := by simp [he]
    go_enter Try.func7, Try.ntmps7
    go_wp2_with (at_builtin; refine wpList_append_any _ rfl _ _ 30 rfl w.heap.size 34 i0 (.agg #[.int .i64 0, .int .i64 0]) 2 16 Try.underlying30 hi hz0 hz1 hz2 rfl (by decide) _ 0 [] rfl (World.ownsRow_nil _ _ _ _) w.heap.size A n' c0 (pcells L) rfl RL2.out.reads (pcells_one L) (by unfold maxLen; omega) (by omega) (Nat.le_refl _) ?_)
    intro v1 w1 own1 grow1 _
    have s1 : Stp [] w w1 := (Stp.refl [] w).grown grow1 (fun k hk => by simp [Value.ownBlock] at hk)
    obtain ⟨A1, cp1, rfl, k1, k1', row1⟩ := own_form (G := []) own1 (by simp)
    go_wp2_with fail
    refine (NX.out _ _ _ row1).mono ?_
    rintro e w2 ⟨rfl, s2⟩
    go_wp2_with fail
    refine (NR.out _ (s1.trans s2)).mono ?_
    rintro e w3 ⟨rfl, s3⟩
    go_wp2_with fail
    refine (alive_any _).mono ?_
    rintro e w4 ⟨rfl, s4⟩
    go_wp2_with fail
    go_ret
    exact ⟨rfl, ((s1.trans s2).trans s3).trans s4⟩
end Go.Proofs.Ytkdpndoamepcbaa
