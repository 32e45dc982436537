/- SmearTells: tables, smeared times, what was taken and whose day it is are the document's; for any leaps and any instants. -/
import Derived.Test.YtbjjfjgomkmdhaaSmearT
import Derived.Deep.CutRange
import Derived.Deep.CutBlock
namespace Go.Proofs.Ytbjjfjgomkmdhaa
open Go.RowKit
set_option linter.unusedVariables false
set_option linter.unusedSimpArgs false

theorem pcells_take (l : List (Int × Int)) (m : Nat) : pcells (l.take m) = (pcells l).take (m * 2) := by
  induction l generalizing m with
  | nil => simp [pcells]
  | cons t l ih =>
    cases m with
    | zero => simp [pcells]
    | succ m =>
      have e : pcells (t :: l) = .int .i64 t.1 :: .int .i64 t.2 :: pcells l := rfl
      rw [List.take_succ_cons, e, Nat.succ_mul]
      show .int .i64 t.1 :: .int .i64 t.2 :: pcells (l.take m) = _
      rw [ih]
      rfl
theorem row_take2 {w : World} {A : Option Addr} {n m : Nat} {l : List (Int × Int)} {G : List Nat} (h : RowIn w A n 2 (pcells l) G) (hm : m ≤ n) : RowIn w A m 2 (pcells (l.take m)) G := by
  have h1 := h.1
  rw [pcells_length] at h1
  refine ⟨by rw [pcells_length]; simp; omega, fun hn => ?_⟩
  obtain ⟨b, off, e, hb, hg, hc⟩ := h.2 (by omega)
  refine ⟨b, off, e, hb, hg, fun j u hu => hc j u ?_⟩
  rw [pcells_take, List.getElem?_take] at hu
  split at hu
  · exact hu
  · cases hu
theorem row_nil (w : World) (G : List Nat) : RowIn w none 0 2 (pcells []) G := ⟨rfl, fun h => absurd h (by omega)⟩

/-- A block of leaps that may be written, beside a table that lies apart. -/
def OwnRow (M : List (Int × Int)) (p A5 : Option Addr) (m lo : Nat) (wr : World) : Prop :=
  0 < m → ∃ (b : Nat) (cur : Array Value), A5 = some ⟨b, 0, none⟩ ∧ wr.heap[b]? = some (.cells cur 30 (0, 0)) ∧ m * 2 ≤ cur.size ∧ lo ≤ b ∧ (∀ j, j < m → ∃ a : Int, cur[j * 2]? = some (.int .i64 a)) ∧ ptrAtG M wr p [b]

set_option maxRecDepth 100000 in
set_option maxHeartbeats 8000000 in
theorem smearTells_walk (A : Option Addr) (n c : Nat) (l : List (Int × Int)) (TA : Option Addr) (nt tc : Nat) (tl : List Int) (w : World) (hcap : n ≤ c ∧ c ≤ maxLen) (hr : Reads w w.heap.size 2 A n (pcells l)) (hl : l.length = n) (hn : n * 16 ≤ 140737488351232) (hb : ∀ x ∈ l, (-9223372036854775808 ≤ x.1 ∧ x.1 ≤ 9223372036854775807) ∧ (-9223372036854775808 ≤ x.2 ∧ x.2 ≤ 9223372036854775807))
    (htr : Reads w w.heap.size 1 TA nt (tl.map (Value.int .i64))) (htl : tl.length = nt) (htn : nt * 8 ≤ 140737488351232) (htb : ∀ x ∈ tl, -9223372036854775808 ≤ x ∧ x ≤ 9223372036854775807) :
    Calls Try.prog 6 #[.slice A n c, .slice TA nt tc] w fun e w' => e = .returned (.bool true) ∧ Stp [] w w' := by
  obtain ⟨m, hm⟩ : ∃ m, min n 40 = m := ⟨_, rfl⟩
  have hmn : m ≤ n := by omega
  have hm40 : m ≤ 40 := by omega
  have hrow := row_take2 (RowIn.of_reads (G := []) hr (Nat.le_refl _) (by simp) (by decide)) hmn
  have hlen : (l.take m).length = m := by simp; omega
  have hb2 : ∀ x ∈ l.take m, (-9223372036854775808 ≤ x.1 ∧ x.1 ≤ 9223372036854775807) ∧ (-9223372036854775808 ≤ x.2 ∧ x.2 ≤ 9223372036854775807) := fun x hx => hb x (List.mem_of_mem_take hx)
  generalize l.take m = L at *
  have TM := Lib.hid (And.intro (RowIn.of_reads (G := []) htr (Nat.le_refl _) (by simp) (by decide)) (And.intro htl htb))
  have P := Lib.hid (And.intro hrow (And.intro hlen hb2))
  obtain ⟨hc1, hc2⟩ := hcap
  unfold maxLen at hc2
  have hmi : min (n : Int) 40 = (m : Int) := by omega
  have m0 : (0 : Int) ≤ (m : Int) := by omega
  have m1 : (m : Int) ≤ (c : Int) := by omega
  clear hrow hlen hb2 hr hl hb hm htr htl htb
  go_enter Try.func6, Try.ntmps6
  go_wp2_with fail
  refine (clone_any A m c (pcells L) w P.out.1.reads (by omega) (pcells_one L)).mono ?_
  rintro e w1 hcl
  obtain ⟨A5, c5, rfl, k5, k5', row5, s1, f5⟩ := clone_form hcl
  unfold maxLen at k5'
  have NW := Lib.hid (snew_any A5 m c5 L w1 row5 P.out.2.1 (by omega) P.out.2.2)
  have Q := Lib.hid (And.intro row5 (And.intro s1 f5))
  clear hcl row5 s1 f5
  go_wp2_with fail
  refine NW.out.mono ?_
  rintro e w2 ⟨p, ec, M, rfl, hec, hcase, okM, hG, s2⟩
  have HEC := Lib.hid hec
  have HG := Lib.hid (And.intro hG (And.intro s2 okM))
  clear hec hG s2 okM NW
  go_wp2_with fail
  refine (awake_any w2).mono ?_
  rintro e w3 ⟨rfl, s3⟩
  have S3 := Lib.hid ((Q.out.2.1.trans HG.out.2.1).trans s3)
  have rn := refnew_any A m c L w3 (P.out.1.stp S3.out) P.out.2.1 (by omega) P.out.2.2
  rw [HEC.out] at rn
  have RN := Lib.hid rn
  have S23 := Lib.hid s3
  clear rn s3
  go_wp2_with fail
  refine RN.out.mono ?_
  rintro e w4 ⟨rfl, s4⟩
  have S4 := Lib.hid (S3.out.trans s4)
  have S24 := Lib.hid (S23.out.trans s4)
  have EQ := Lib.hid (equal_any A5 m c5 A c L w4 ((Q.out.1.stp HG.out.2.1).stp S24.out) (P.out.1.stp S4.out) P.out.2.1 (by omega))
  clear s4 S3 S23 RN
  have HCASE := Lib.hid hcase
  rcases hcase with ⟨rfl, hML, g, rfl⟩ | ⟨hne, rfl, rfl⟩
  · obtain rfl : L = M := hML.symm
    go_wp2_with fail
    refine EQ.out.mono ?_
    rintro e w5 ⟨rfl, s5⟩
    have S5 := Lib.hid (S4.out.trans s5)
    have S25 := Lib.hid (S24.out.trans s5)
    clear s5 S4 S24 EQ
    have PT : ptrAt L w5 (some ⟨g, 0, none⟩) := (HG.out.1 [] (by simp)).ptr.stp S25.out
    have OR : OwnRow L (some ⟨g, 0, none⟩) A5 m w.heap.size w5 := fun h0 => by
      obtain ⟨b, cur, h1, h2, h3, h4, h5⟩ := Q.out.2.2 h0
      have hbl := lt_of_at h3
      refine ⟨b, cur, h1, (HG.out.2.1.trans S25.out).at h3 (by simp), h4, h2, fun j hj => ?_, (HG.out.1 [b] (by intro k hk; simp at hk; omega)).out S25.out.of_nil⟩
      rw [h5 _ (by omega)]
      have hjl : j < L.length := by rw [P.out.2.1]; exact hj
      exact ⟨_, (pcells_get L j hjl).1⟩
    have okM := HG.out.2.2
    have X := Lib.hid (And.intro PT (And.intro OR S5.out))
    clear PT OR S5 S25 HG HEC HCASE Q
    go_wp2_with fail
    go_loopw [54] (fun i wr => ∃ k : Nat, k ≤ m ∧ i = .int .i64 k ∧ Hid (ptrAt L wr (some ⟨g, 0, none⟩) ∧ OwnRow L (some ⟨g, 0, none⟩) A5 m w.heap.size wr ∧ Stp [] w wr)) (fun i _ => m - (intOf i).toNat)
    case atStart => exact ⟨0, Nat.zero_le _, rfl, X⟩
    case round =>
      obtain ⟨k, hk, rfl, H⟩ := hrel
      clear X
      by_cases hlt : k < m
      · obtain ⟨b, cur, rfl, hh, hsz, hwb, hal, hG1⟩ := H.out.2.1 (by omega)
        obtain ⟨a, ha⟩ := hal k hlt
        have q0 := cell_at hh (k * 2)
        rw [ha] at q0
        have f0 := free_at hh (k * 2)
        have gs : Stp [b] wr (wr.setCell ⟨b, k * 2, none⟩ (.int .i64 (wrap64 (a + 1)))) := (Stp.refl _ wr).setCell (p := ⟨b, k * 2, none⟩) (.inl (by simp)) _
        have fin := set_at hh (k * 2) (.int .i64 (wrap64 (a + 1)))
        have g2 := hG1.out gs
        have N := Lib.hid (show ptrAt L (wr.setCell ⟨b, k * 2, none⟩ (.int .i64 (wrap64 (a + 1)))) (some ⟨g, 0, none⟩) ∧ OwnRow L (some ⟨g, 0, none⟩) (some ⟨b, 0, none⟩) m w.heap.size (wr.setCell ⟨b, k * 2, none⟩ (.int .i64 (wrap64 (a + 1)))) ∧ Stp [] w (wr.setCell ⟨b, k * 2, none⟩ (.int .i64 (wrap64 (a + 1)))) from
          ⟨g2.ptr, fun _ => ⟨b, _, rfl, fin, by simpa using hsz, hwb, fun j hj => by
            by_cases hjk : j = k
            · subst hjk
              exact ⟨_, by rw [Array.getElem?_setIfInBounds_self_of_lt (by omega)]⟩
            · obtain ⟨a', ha'⟩ := hal j hj
              exact ⟨a', by rw [Array.getElem?_setIfInBounds_ne (by omega)]; exact ha'⟩, g2⟩, H.out.2.2.far gs (.inr hwb)⟩)
        clear gs fin g2 hG1 hh H hal ha
        go_wp2_with fail
        go_roundw
        case rel => exact ⟨k + 1, by omega, by go_num, N⟩
        case measure => simp [intOf]; omega
      · have PT := H.out.1
        have S6 := Lib.hid H.out.2.2
        obtain ⟨w6, hw6⟩ : ∃ w6, w6 = wr := ⟨_, rfl⟩
        subst hw6
        have RW := Lib.hid (show RowIn w6 A m 2 (pcells L) [] from P.out.1.stp S6.out)
        have PT6 := Lib.hid PT
        have L2 := Lib.hid P.out.2.1
        clear H PT
        go_upto_block 2 with (fail)
        go_cut [] from 68 to 112 (fun wc => Hid (Stp [] w6 wc))
        case first =>
          go_wp2_with fail
          go_loopw [68] (fun i wr => ∃ k : Nat, k ≤ nt ∧ k ≤ 40 ∧ i = .int .i64 k ∧ Hid (Stp [] w6 wr)) (fun i _ => nt - (intOf i).toNat)
          case atStart => exact ⟨0, Nat.zero_le _, by omega, rfl, Lib.hid (Stp.refl _ _)⟩
          case round =>
            obtain ⟨k, hk, hk40, rfl, HT⟩ := hrel
            by_cases hlt : k < nt
            · obtain ⟨b, off, rfl, hbb, hbg, hcell⟩ := TM.out.1.2 (by omega)
              have hkl : k < tl.length := by have := TM.out.2.1; omega
              have hc : wr.cell? ⟨b, off + k, none⟩ = some (.int .i64 tl[k]) := (S6.out.trans HT.out).cell (hcell k _ (by rw [List.getElem?_map, List.getElem?_eq_getElem hkl]; rfl)) (by simp)
              have hbk := TM.out.2.2 tl[k] (List.getElem_mem _)
              clear hcell
              generalize tl[k] = t at *
              obtain ⟨tb0, tb1⟩ := hbk
              by_cases h40 : k = 40
              · have h40' : ((k : Int) == 40) = true := by simp; omega
                clear h40
                go_wp2_with fail
                go_meet
                exact HT
              · have h40' : ((k : Int) == 40) = false := by simp; omega
                have hk39 : k ≤ 39 := by omega
                have PTr := Lib.hid (PT6.out.stp HT.out)
                have RWr := Lib.hid (RW.out.stp HT.out)
                have wa := fun (w : World) (h : ptrAt L w (some ⟨g, 0, none⟩)) => withinP_any t h okM
                have ra := fun (w : World) h => rwithin_any A m c L t w h L2.out okM
                have ta := fun (w : World) (h : ptrAt L w (some ⟨g, 0, none⟩)) => toP_any t h okM
                have rt := fun (w : World) h => rto_any A m c L t w h L2.out okM
                have ka := fun (w : World) (h : ptrAt L w (some ⟨g, 0, none⟩)) => takenP_any t h okM
                have rk := fun (w : World) h => rtaken_any A m c L t w h L2.out okM
                have rb := idxS_bd (inS (instS t)) L
                have rb2 : -1 ≤ withinS L t := rb
                generalize withinS L t = r at *
                generalize toS L t = v1 at *
                generalize takenS (instS t) L = v2 at *
                have C := Lib.hid (And.intro wa (And.intro ra (And.intro ta (And.intro rt (And.intro ka rk)))))
                clear wa ra ta rt ka rk rb h40
                rcases (show (0 ≤ r ∧ max r 0 = r) ∨ (¬ 0 ≤ r ∧ max r 0 = 0) by omega) with ⟨hr, hmx⟩ | ⟨hr, hmx⟩
                · have W1 := C.out.1 wr PTr.out
                  rw [hmx, decide_eq_true hr] at W1
                  have W := Lib.hid W1
                  have hmx' : max r 0 = r := hmx
                  clear W1 hmx
                  go_wp2_with fail
                  refine W.out.mono ?_
                  rintro e wa ⟨rfl, sa⟩
                  have SA := Lib.hid sa
                  clear sa
                  go_wp2_with fail
                  refine (C.out.2.1 _ (RWr.out.stp SA.out)).mono ?_
                  rintro e wb ⟨rfl, sb⟩
                  have SB := Lib.hid (SA.out.trans sb)
                  clear sb
                  go_wp2_with fail
                  refine (C.out.2.2.1 _ (PTr.out.stp SB.out)).mono ?_
                  rintro e wc ⟨rfl, sc⟩
                  have SC := Lib.hid (SB.out.trans sc)
                  clear sc
                  go_wp2_with fail
                  refine (C.out.2.2.2.1 _ (RWr.out.stp SC.out)).mono ?_
                  rintro e wd ⟨rfl, sd⟩
                  have SD := Lib.hid (SC.out.trans sd)
                  clear sd
                  go_wp2_with fail
                  refine (C.out.2.2.2.2.1 _ (PTr.out.stp SD.out)).mono ?_
                  rintro e we ⟨rfl, se⟩
                  have SE := Lib.hid (SD.out.trans se)
                  clear se
                  go_wp2_with fail
                  refine (C.out.2.2.2.2.2 _ (RWr.out.stp SE.out)).mono ?_
                  rintro e wf ⟨rfl, sf⟩
                  go_wp2_with fail
                  go_roundw
                  case rel => exact ⟨k + 1, by omega, by omega, by go_num, Lib.hid ((HT.out.trans SE.out).trans sf)⟩
                  case measure => simp [intOf]; omega
                · have W1 := C.out.1 wr PTr.out
                  rw [hmx, decide_eq_false hr] at W1
                  have W := Lib.hid W1
                  have hmx' : max r 0 = 0 := hmx
                  clear W1 hmx
                  go_wp2_with fail
                  refine W.out.mono ?_
                  rintro e wa ⟨rfl, sa⟩
                  have SA := Lib.hid sa
                  clear sa
                  go_wp2_with fail
                  refine (C.out.2.1 _ (RWr.out.stp SA.out)).mono ?_
                  rintro e wb ⟨rfl, sb⟩
                  have SB := Lib.hid (SA.out.trans sb)
                  clear sb
                  go_wp2_with fail
                  refine (C.out.2.2.1 _ (PTr.out.stp SB.out)).mono ?_
                  rintro e wc ⟨rfl, sc⟩
                  have SC := Lib.hid (SB.out.trans sc)
                  clear sc
                  go_wp2_with fail
                  refine (C.out.2.2.2.1 _ (RWr.out.stp SC.out)).mono ?_
                  rintro e wd ⟨rfl, sd⟩
                  have SD := Lib.hid (SC.out.trans sd)
                  clear sd
                  go_wp2_with fail
                  refine (C.out.2.2.2.2.1 _ (PTr.out.stp SD.out)).mono ?_
                  rintro e we ⟨rfl, se⟩
                  have SE := Lib.hid (SD.out.trans se)
                  clear se
                  go_wp2_with fail
                  refine (C.out.2.2.2.2.2 _ (RWr.out.stp SE.out)).mono ?_
                  rintro e wf ⟨rfl, sf⟩
                  go_wp2_with fail
                  go_roundw
                  case rel => exact ⟨k + 1, by omega, by omega, by go_num, Lib.hid ((HT.out.trans SE.out).trans sf)⟩
                  case measure => simp [intOf]; omega
            · obtain rfl : k = nt := by omega
              go_wp2_with fail
              go_meet
              exact HT
        case rest =>
          obtain ⟨w7, hw7⟩ : ∃ w7, w7 = wc := ⟨_, rfl⟩
          subst hw7
          have PT7 := Lib.hid (PT6.out.stp hcut.out)
          have RW7 := Lib.hid (RW.out.stp hcut.out)
          have S7 := Lib.hid (S6.out.trans hcut.out)
          have LI := Lib.hid (fun (w : World) (h : ptrAt L w (some ⟨g, 0, none⟩)) => (show Calls Try.prog 22 #[.pointer (some ⟨g, 0, none⟩)] w (Cloned m (pcells L) w) from by have := listP_any h okM.len; rw [P.out.2.1] at this; exact this))
          clear hcut PT6 RW S6
          go_wp2_with fail
          refine (LI.out _ PT7.out).mono ?_
          rintro e w8 hcl
          obtain ⟨A9, c9, rfl, k9, k9', row9, s8, f9⟩ := clone_form hcl
          unfold maxLen at k9'
          have E1 := Lib.hid (equal_any A9 m c9 A c L w8 row9 (RW7.out.stp s8) L2.out (by omega))
          have F9 := Lib.hid f9
          have PG := Lib.hid (fun (G : List Nat) (hG : ∀ k, k ∈ G → w7.heap.size ≤ k) => PT7.out.new hG s8)
          have S8 := Lib.hid (S7.out.trans s8)
          have ge8 : w.heap.size ≤ w7.heap.size := S7.out.size
          have RW8 := Lib.hid (RW7.out.stp s8)
          have PT8 := Lib.hid (PT7.out.stp s8)
          clear hcl row9 s8 f9 S7 RW7
          go_wp2_with fail
          refine E1.out.mono ?_
          rintro e w9 ⟨rfl, s9⟩
          have T9 := Lib.hid (S8.out.trans s9)
          have R9 : m > 0 → ∃ (b : Nat) (cur : Array Value), A9 = some ⟨b, 0, none⟩ ∧ w9.heap[b]? = some (.cells cur 30 (0, 0)) ∧ m * 2 ≤ cur.size ∧ w.heap.size ≤ b ∧ ptrAtG L w9 (some ⟨g, 0, none⟩) [b] := fun h0 => by
            obtain ⟨b, cur, h1, h2, h3, h4, _⟩ := F9.out h0
            exact ⟨b, cur, h1, s9.at h3 (by simp), h4, by omega, (PG.out [b] (by intro k hk; simp at hk; omega)).out s9.of_nil⟩
          have X := Lib.hid (And.intro (PT8.out.stp s9) (And.intro T9.out R9))
          clear s9 T9 S8 R9 F9 PG PT8 PT7 E1
          go_wp2_with fail
          go_loopw [120] (fun i wr => ∃ k : Nat, k ≤ m ∧ i = .int .i64 k ∧ Hid (ptrAt L wr (some ⟨g, 0, none⟩) ∧ Stp [] w wr ∧ (m > 0 → ∃ (b : Nat) (cur : Array Value), A9 = some ⟨b, 0, none⟩ ∧ wr.heap[b]? = some (.cells cur 30 (0, 0)) ∧ m * 2 ≤ cur.size ∧ w.heap.size ≤ b ∧ ptrAtG L wr (some ⟨g, 0, none⟩) [b]))) (fun i _ => m - (intOf i).toNat)
          case atStart => exact ⟨0, Nat.zero_le _, rfl, X⟩
          case round =>
            obtain ⟨k, hk, rfl, H⟩ := hrel
            clear X
            by_cases hlt : k < m
            · obtain ⟨b, cur, rfl, hh, hsz, hwb, hG1⟩ := H.out.2.2 (by omega)
              have q1 := cell_at hh (k * 2 + 1)
              rw [Array.getElem?_eq_getElem (by omega)] at q1
              have f1 := free_at hh (k * 2 + 1)
              have gs : Stp [b] wr (wr.setCell ⟨b, k * 2 + 1, none⟩ (.int .i64 0)) := (Stp.refl _ wr).setCell (p := ⟨b, k * 2 + 1, none⟩) (.inl (by simp)) _
              have fin := set_at hh (k * 2 + 1) (.int .i64 0)
              have g2 := hG1.out gs
              have N := Lib.hid (show ptrAt L (wr.setCell ⟨b, k * 2 + 1, none⟩ (.int .i64 0)) (some ⟨g, 0, none⟩) ∧ Stp [] w (wr.setCell ⟨b, k * 2 + 1, none⟩ (.int .i64 0)) ∧ (m > 0 → ∃ (b' : Nat) (cur' : Array Value), some (⟨b, 0, none⟩ : Addr) = some ⟨b', 0, none⟩ ∧ (wr.setCell ⟨b, k * 2 + 1, none⟩ (.int .i64 0)).heap[b']? = some (.cells cur' 30 (0, 0)) ∧ m * 2 ≤ cur'.size ∧ w.heap.size ≤ b' ∧ ptrAtG L (wr.setCell ⟨b, k * 2 + 1, none⟩ (.int .i64 0)) (some ⟨g, 0, none⟩) [b']) from
                ⟨g2.ptr, H.out.2.1.far gs (.inr hwb), fun _ => ⟨b, _, rfl, fin, by simpa using hsz, hwb, g2⟩⟩)
              clear gs fin g2 hG1 hh H
              generalize cur[k * 2 + 1]'(by omega) = old at q1
              go_wp2_with fail
              go_roundw
              case rel => exact ⟨k + 1, by omega, by go_num, N⟩
              case measure => simp [intOf]; omega
            · have PT := Lib.hid H.out.1
              have SW := Lib.hid H.out.2.1
              obtain ⟨w10, hw10⟩ : ∃ w10, w10 = wr := ⟨_, rfl⟩
              subst hw10
              have RW10 := Lib.hid (show RowIn w10 A m 2 (pcells L) [] from P.out.1.stp SW.out)
              clear H
              go_wp2_with fail
              refine (LI.out _ PT.out).mono ?_
              rintro e w11 hcl
              obtain ⟨AZ, cZ, rfl, k12, k12', rowZ, s12, _⟩ := clone_form hcl
              unfold maxLen at k12'
              have E2 := Lib.hid (equal_any AZ m cZ A c L w11 rowZ (RW10.out.stp s12) L2.out (by omega))
              have SF := Lib.hid (SW.out.trans s12)
              clear hcl rowZ s12 PT SW
              go_wp2_with fail
              refine E2.out.mono ?_
              rintro e w13 ⟨rfl, s13⟩
              go_wp2_with fail
              go_ret
              exact ⟨rfl, SF.out.trans s13⟩
  · have hb0 : (ec == 0) = false := by simp [hne]
    have hb1 : (ec != 0) = true := by simp [hne]
    clear hne
    go_wp2_with fail
    refine EQ.out.mono ?_
    rintro e w5 ⟨rfl, s5⟩
    have S5 := Lib.hid (S4.out.trans s5)
    have S25 := Lib.hid (S24.out.trans s5)
    clear s5 S4 S24 EQ
    have PT : ptrAt [] w5 none := (HG.out.1 [] (by simp)).ptr.stp S25.out
    have OR : OwnRow [] none A5 m w.heap.size w5 := fun h0 => by
      obtain ⟨b, cur, h1, h2, h3, h4, h5⟩ := Q.out.2.2 h0
      have hbl := lt_of_at h3
      refine ⟨b, cur, h1, (HG.out.2.1.trans S25.out).at h3 (by simp), h4, h2, fun j hj => ?_, (HG.out.1 [b] (by intro k hk; simp at hk; omega)).out S25.out.of_nil⟩
      rw [h5 _ (by omega)]
      have hjl : j < L.length := by rw [P.out.2.1]; exact hj
      exact ⟨_, (pcells_get L j hjl).1⟩
    have okM := HG.out.2.2
    have X := Lib.hid (And.intro PT (And.intro OR S5.out))
    clear PT OR S5 S25 HG HEC HCASE Q
    go_wp2_with fail
    go_loopw [54] (fun i wr => ∃ k : Nat, k ≤ m ∧ i = .int .i64 k ∧ Hid (ptrAt [] wr none ∧ OwnRow [] none A5 m w.heap.size wr ∧ Stp [] w wr)) (fun i _ => m - (intOf i).toNat)
    case atStart => exact ⟨0, Nat.zero_le _, rfl, X⟩
    case round =>
      obtain ⟨k, hk, rfl, H⟩ := hrel
      clear X
      by_cases hlt : k < m
      · obtain ⟨b, cur, rfl, hh, hsz, hwb, hal, hG1⟩ := H.out.2.1 (by omega)
        obtain ⟨a, ha⟩ := hal k hlt
        have q0 := cell_at hh (k * 2)
        rw [ha] at q0
        have f0 := free_at hh (k * 2)
        have gs : Stp [b] wr (wr.setCell ⟨b, k * 2, none⟩ (.int .i64 (wrap64 (a + 1)))) := (Stp.refl _ wr).setCell (p := ⟨b, k * 2, none⟩) (.inl (by simp)) _
        have fin := set_at hh (k * 2) (.int .i64 (wrap64 (a + 1)))
        have g2 := hG1.out gs
        have N := Lib.hid (show ptrAt [] (wr.setCell ⟨b, k * 2, none⟩ (.int .i64 (wrap64 (a + 1)))) none ∧ OwnRow [] none (some ⟨b, 0, none⟩) m w.heap.size (wr.setCell ⟨b, k * 2, none⟩ (.int .i64 (wrap64 (a + 1)))) ∧ Stp [] w (wr.setCell ⟨b, k * 2, none⟩ (.int .i64 (wrap64 (a + 1)))) from
          ⟨g2.ptr, fun _ => ⟨b, _, rfl, fin, by simpa using hsz, hwb, fun j hj => by
            by_cases hjk : j = k
            · subst hjk
              exact ⟨_, by rw [Array.getElem?_setIfInBounds_self_of_lt (by omega)]⟩
            · obtain ⟨a', ha'⟩ := hal j hj
              exact ⟨a', by rw [Array.getElem?_setIfInBounds_ne (by omega)]; exact ha'⟩, g2⟩, H.out.2.2.far gs (.inr hwb)⟩)
        clear gs fin g2 hG1 hh H hal ha
        go_wp2_with fail
        go_roundw
        case rel => exact ⟨k + 1, by omega, by go_num, N⟩
        case measure => simp [intOf]; omega
      · have PT := H.out.1
        have S6 := Lib.hid H.out.2.2
        obtain ⟨w6, hw6⟩ : ∃ w6, w6 = wr := ⟨_, rfl⟩
        subst hw6
        have RW := Lib.hid (row_nil w6 [])
        have PT6 := Lib.hid PT
        have L2 := Lib.hid (show ([] : List (Int × Int)).length = 0 from rfl)
        clear H PT
        go_upto_block 2 with (fail)
        go_cut [] from 68 to 112 (fun wc => Hid (Stp [] w6 wc))
        case first =>
          go_wp2_with fail
          go_loopw [68] (fun i wr => ∃ k : Nat, k ≤ nt ∧ k ≤ 40 ∧ i = .int .i64 k ∧ Hid (Stp [] w6 wr)) (fun i _ => nt - (intOf i).toNat)
          case atStart => exact ⟨0, Nat.zero_le _, by omega, rfl, Lib.hid (Stp.refl _ _)⟩
          case round =>
            obtain ⟨k, hk, hk40, rfl, HT⟩ := hrel
            by_cases hlt : k < nt
            · obtain ⟨b, off, rfl, hbb, hbg, hcell⟩ := TM.out.1.2 (by omega)
              have hkl : k < tl.length := by have := TM.out.2.1; omega
              have hc : wr.cell? ⟨b, off + k, none⟩ = some (.int .i64 tl[k]) := (S6.out.trans HT.out).cell (hcell k _ (by rw [List.getElem?_map, List.getElem?_eq_getElem hkl]; rfl)) (by simp)
              have hbk := TM.out.2.2 tl[k] (List.getElem_mem _)
              clear hcell
              generalize tl[k] = t at *
              obtain ⟨tb0, tb1⟩ := hbk
              by_cases h40 : k = 40
              · have h40' : ((k : Int) == 40) = true := by simp; omega
                clear h40
                go_wp2_with fail
                go_meet
                exact HT
              · have h40' : ((k : Int) == 40) = false := by simp; omega
                have hk39 : k ≤ 39 := by omega
                have PTr := Lib.hid (PT6.out.stp HT.out)
                have RWr := Lib.hid (RW.out.stp HT.out)
                have wa := fun (w : World) (h : ptrAt [] w none) => withinP_any t h okM
                have ra := fun (w : World) h => rwithin_any none 0 0 [] t w h L2.out okM
                have ta := fun (w : World) (h : ptrAt [] w none) => toP_any t h okM
                have rt := fun (w : World) h => rto_any none 0 0 [] t w h L2.out okM
                have ka := fun (w : World) (h : ptrAt [] w none) => takenP_any t h okM
                have rk := fun (w : World) h => rtaken_any none 0 0 [] t w h L2.out okM
                have rb := idxS_bd (inS (instS t)) []
                have rb2 : -1 ≤ withinS [] t := rb
                generalize withinS [] t = r at *
                generalize toS [] t = v1 at *
                generalize takenS (instS t) [] = v2 at *
                have C := Lib.hid (And.intro wa (And.intro ra (And.intro ta (And.intro rt (And.intro ka rk)))))
                clear wa ra ta rt ka rk rb h40
                rcases (show (0 ≤ r ∧ max r 0 = r) ∨ (¬ 0 ≤ r ∧ max r 0 = 0) by omega) with ⟨hr, hmx⟩ | ⟨hr, hmx⟩
                · have W1 := C.out.1 wr PTr.out
                  rw [hmx, decide_eq_true hr] at W1
                  have W := Lib.hid W1
                  have hmx' : max r 0 = r := hmx
                  clear W1 hmx
                  go_wp2_with fail
                  refine W.out.mono ?_
                  rintro e wa ⟨rfl, sa⟩
                  have SA := Lib.hid sa
                  clear sa
                  go_wp2_with fail
                  refine (C.out.2.1 _ (RWr.out.stp SA.out)).mono ?_
                  rintro e wb ⟨rfl, sb⟩
                  have SB := Lib.hid (SA.out.trans sb)
                  clear sb
                  go_wp2_with fail
                  refine (C.out.2.2.1 _ (PTr.out.stp SB.out)).mono ?_
                  rintro e wc ⟨rfl, sc⟩
                  have SC := Lib.hid (SB.out.trans sc)
                  clear sc
                  go_wp2_with fail
                  refine (C.out.2.2.2.1 _ (RWr.out.stp SC.out)).mono ?_
                  rintro e wd ⟨rfl, sd⟩
                  have SD := Lib.hid (SC.out.trans sd)
                  clear sd
                  go_wp2_with fail
                  refine (C.out.2.2.2.2.1 _ (PTr.out.stp SD.out)).mono ?_
                  rintro e we ⟨rfl, se⟩
                  have SE := Lib.hid (SD.out.trans se)
                  clear se
                  go_wp2_with fail
                  refine (C.out.2.2.2.2.2 _ (RWr.out.stp SE.out)).mono ?_
                  rintro e wf ⟨rfl, sf⟩
                  go_wp2_with fail
                  go_roundw
                  case rel => exact ⟨k + 1, by omega, by omega, by go_num, Lib.hid ((HT.out.trans SE.out).trans sf)⟩
                  case measure => simp [intOf]; omega
                · have W1 := C.out.1 wr PTr.out
                  rw [hmx, decide_eq_false hr] at W1
                  have W := Lib.hid W1
                  have hmx' : max r 0 = 0 := hmx
                  clear W1 hmx
                  go_wp2_with fail
                  refine W.out.mono ?_
                  rintro e wa ⟨rfl, sa⟩
                  have SA := Lib.hid sa
                  clear sa
                  go_wp2_with fail
                  refine (C.out.2.1 _ (RWr.out.stp SA.out)).mono ?_
                  rintro e wb ⟨rfl, sb⟩
                  have SB := Lib.hid (SA.out.trans sb)
                  clear sb
                  go_wp2_with fail
                  refine (C.out.2.2.1 _ (PTr.out.stp SB.out)).mono ?_
                  rintro e wc ⟨rfl, sc⟩
                  have SC := Lib.hid (SB.out.trans sc)
                  clear sc
                  go_wp2_with fail
                  refine (C.out.2.2.2.1 _ (RWr.out.stp SC.out)).mono ?_
                  rintro e wd ⟨rfl, sd⟩
                  have SD := Lib.hid (SC.out.trans sd)
                  clear sd
                  go_wp2_with fail
                  refine (C.out.2.2.2.2.1 _ (PTr.out.stp SD.out)).mono ?_
                  rintro e we ⟨rfl, se⟩
                  have SE := Lib.hid (SD.out.trans se)
                  clear se
                  go_wp2_with fail
                  refine (C.out.2.2.2.2.2 _ (RWr.out.stp SE.out)).mono ?_
                  rintro e wf ⟨rfl, sf⟩
                  go_wp2_with fail
                  go_roundw
                  case rel => exact ⟨k + 1, by omega, by omega, by go_num, Lib.hid ((HT.out.trans SE.out).trans sf)⟩
                  case measure => simp [intOf]; omega
            · obtain rfl : k = nt := by omega
              go_wp2_with fail
              go_meet
              exact HT
        case rest =>
          obtain ⟨w7, hw7⟩ : ∃ w7, w7 = wc := ⟨_, rfl⟩
          subst hw7
          have PT7 := Lib.hid (PT6.out.stp hcut.out)
          have RW7 := Lib.hid (RW.out.stp hcut.out)
          have S7 := Lib.hid (S6.out.trans hcut.out)
          have LI := Lib.hid (fun (w : World) (h : ptrAt [] w none) => (show Calls Try.prog 22 #[.pointer none] w (Cloned 0 (pcells []) w) from by have := listP_any h okM.len; exact this))
          clear hcut PT6 RW S6
          go_wp2_with fail
          refine (LI.out _ PT7.out).mono ?_
          rintro e w8 hcl
          obtain ⟨A9, c9, rfl, k9, k9', row9, s8, f9⟩ := clone_form hcl
          unfold maxLen at k9'
          have E1 := Lib.hid (equal_any A9 0 c9 none 0 [] w8 row9 (RW7.out.stp s8) L2.out (by omega))
          have F9 := Lib.hid f9
          have PG := Lib.hid (fun (G : List Nat) (hG : ∀ k, k ∈ G → w7.heap.size ≤ k) => PT7.out.new hG s8)
          have S8 := Lib.hid (S7.out.trans s8)
          have ge8 : w.heap.size ≤ w7.heap.size := S7.out.size
          have RW8 := Lib.hid (RW7.out.stp s8)
          have PT8 := Lib.hid (PT7.out.stp s8)
          clear hcl row9 s8 f9 S7 RW7
          go_wp2_with fail
          refine E1.out.mono ?_
          rintro e w9 ⟨rfl, s9⟩
          have T9 := Lib.hid (S8.out.trans s9)
          have R9 : 0 > 0 → ∃ (b : Nat) (cur : Array Value), A9 = some ⟨b, 0, none⟩ ∧ w9.heap[b]? = some (.cells cur 30 (0, 0)) ∧ 0 * 2 ≤ cur.size ∧ w.heap.size ≤ b ∧ ptrAtG [] w9 none [b] := fun h0 => by
            obtain ⟨b, cur, h1, h2, h3, h4, _⟩ := F9.out h0
            exact ⟨b, cur, h1, s9.at h3 (by simp), h4, by omega, (PG.out [b] (by intro k hk; simp at hk; omega)).out s9.of_nil⟩
          have X := Lib.hid (And.intro (PT8.out.stp s9) (And.intro T9.out R9))
          clear s9 T9 S8 R9 F9 PG PT8 PT7 E1
          go_wp2_with fail
          go_loopw [120] (fun i wr => ∃ k : Nat, k ≤ 0 ∧ i = .int .i64 k ∧ Hid (ptrAt [] wr none ∧ Stp [] w wr ∧ (0 > 0 → ∃ (b : Nat) (cur : Array Value), A9 = some ⟨b, 0, none⟩ ∧ wr.heap[b]? = some (.cells cur 30 (0, 0)) ∧ 0 * 2 ≤ cur.size ∧ w.heap.size ≤ b ∧ ptrAtG [] wr none [b]))) (fun i _ => 0 - (intOf i).toNat)
          case atStart => exact ⟨0, Nat.zero_le _, rfl, X⟩
          case round =>
            obtain ⟨k, hk, rfl, H⟩ := hrel
            clear X
            by_cases hlt : k < 0
            · exfalso; omega
            · have PT := Lib.hid H.out.1
              have SW := Lib.hid H.out.2.1
              obtain ⟨w10, hw10⟩ : ∃ w10, w10 = wr := ⟨_, rfl⟩
              subst hw10
              have RW10 := Lib.hid (row_nil w10 [])
              clear H
              go_wp2_with fail
              refine (LI.out _ PT.out).mono ?_
              rintro e w11 hcl
              obtain ⟨AZ, cZ, rfl, k12, k12', rowZ, s12, _⟩ := clone_form hcl
              unfold maxLen at k12'
              have E2 := Lib.hid (equal_any AZ 0 cZ none 0 [] w11 rowZ (RW10.out.stp s12) L2.out (by omega))
              have SF := Lib.hid (SW.out.trans s12)
              clear hcl rowZ s12 PT SW
              go_wp2_with fail
              refine E2.out.mono ?_
              rintro e w13 ⟨rfl, s13⟩
              go_wp2_with fail
              go_ret
              exact ⟨rfl, SF.out.trans s13⟩
end Go.Proofs.Ytbjjfjgomkmdhaa
