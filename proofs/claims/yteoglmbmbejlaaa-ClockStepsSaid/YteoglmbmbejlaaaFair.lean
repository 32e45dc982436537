/- The law's own fair: bounds brought to some, offsets at instants that rise. -/
import Derived.Test.YteoglmbmbejlaaaFns2
import Derived.Test.YteoglmbmbejlaaaWords
import Derived.RegionTactic
import Derived.ChangeAlike
namespace Go.Proofs.Yteoglmbmbejlaaa
open Go.RowKit
set_option linter.unusedVariables false
set_option linter.unusedSimpArgs false

theorem info30 : (Try.prog.info? 30).map (fun i => (i.zero, i.size, i.bytes)) = some (some (.agg #[.int .i64 0, .int .i64 0]), 2, 16) := by kernel_rfl

/-- Offsets at instants that rise. -/
def acc : Int → List (Int × Int) → List (Int × Int)
  | _, [] => []
  | s, t :: r => (t.1, s + t.2 % 1099511627776) :: acc (s + t.2 % 1099511627776) r
/-- The instant after all of them. -/
def accEnd : Int → List (Int × Int) → Int
  | s, [] => s
  | s, t :: r => accEnd (s + t.2 % 1099511627776) r
theorem acc_snoc (s : Int) (l : List (Int × Int)) (t : Int × Int) : acc s (l ++ [t]) = acc s l ++ [(t.1, accEnd s l + t.2 % 1099511627776)] ∧ accEnd s (l ++ [t]) = accEnd s l + t.2 % 1099511627776 := by
  induction l generalizing s with
  | nil => exact ⟨rfl, rfl⟩
  | cons x l ih => exact ⟨by simp [acc, accEnd, (ih _).1], by simp [accEnd, (ih _).2]⟩
theorem acc_length (s : Int) (l : List (Int × Int)) : (acc s l).length = l.length := by
  induction l generalizing s with
  | nil => rfl
  | cons x l ih => simp [acc, ih]
theorem accEnd_bd (s : Int) (l : List (Int × Int)) : s ≤ accEnd s l ∧ accEnd s l ≤ s + l.length * 1099511627776 := by
  induction l generalizing s with
  | nil => simp [accEnd]
  | cons x l ih =>
    have := ih (s + x.2 % 1099511627776)
    simp only [accEnd, List.length_cons]
    omega
/-- The panic bound that fair makes. -/
def fpa (st pa : Int) : Int := if pa % 1099511627776 > 0 then pa % 1099511627776 + st % 1073741824 else 0
def FairPost (st pa so : Int) (kn : Bool) (l : List (Int × Int)) (w : World) (e : Ending) (w' : World) : Prop :=
  ∃ g v, e = .returned (.tuple #[.pointer (some ⟨g, 0, none⟩), .agg #[.int .i64 (st % 1073741824), .int .i64 (fpa st pa), .int .i64 (so % 1099511627776), .bool kn], v]) ∧
    (CS.mk (st % 1073741824) (fpa st pa) (so % 1099511627776) (if kn then 1 else 0) 0).at w' g ∧ w.heap.size ≤ g ∧
    w'.ownsRow w.heap.size 30 2 v (acc 0 (l.take 80)).length (pcells (acc 0 (l.take 80))) ∧ Stp [] w w'

theorem new_any (st pa so : Int) (kn : Bool) (w : World) (h1 : isTime st = true) (h2 : isTime pa = true) (h3 : isTime so = true) (h4 : pa = 0 ∨ pa ≠ 0 ∧ st < pa) :
    Calls Try.prog 14 #[.int .i64 st, .int .i64 pa, .int .i64 so, .bool kn] w (Made ⟨st, pa, so, if kn then 1 else 0, 0⟩ 0 w) := by
  cases kn
  · exact new_unknown st pa so w h1 h2 h3 h4
  · exact new_known st pa so w h1 h2 h3 h4

/-- What holds at the head of fair's loop. -/
structure FairRel (st pa so : Int) (kn : Bool) (l : List (Int × Int)) (w : World) (g k : Nat) (v : Value) (wr : World) : Prop where
  own : wr.ownsRow w.heap.size 30 2 v k (pcells (acc 0 (l.take k)))
  at_ : (CS.mk (st % 1073741824) (fpa st pa) (so % 1099511627776) (if kn then 1 else 0) 0).at wr g
  box : Blk wr w.heap.size 23 #[.int .i64 (st % 1073741824), .int .i64 (fpa st pa), .int .i64 (so % 1099511627776), .bool kn]
  res : Blk wr (w.heap.size + 1) 23 #[.int .i64 0, .int .i64 0, .int .i64 0, .bool false]
  stp : Stp [] w wr

theorem FairRel.step {st pa so : Int} {kn : Bool} {l : List (Int × Int)} {w : World} {g k : Nat} {v v' : Value} {wr w2 : World} {x1 y2 : Int} {o1 o2 : Obj} (h : FairRel st pa so kn l w g k v wr)
    (ha : acc 0 (l.take (k + 1)) = acc 0 (l.take k) ++ [(x1, y2)])
    (hown : w2.ownsRow w.heap.size 30 2 v' (k + 1) (pcells (acc 0 (l.take k)) ++ [.int .i64 x1, .int .i64 y2])) (hg : ((wr.alloc o1).alloc o2).grownBy w2 v.ownBlock) :
    FairRel st pa so kn l w g (k + 1) v' w2 := by
  have n1 : some g ≠ v.ownBlock := fun e => own_blk_ne (t := 46) h.own (show Blk wr g 46 _ from h.at_) (by decide) e.symm
  have n2 : some w.heap.size ≠ v.ownBlock := fun e => own_blk_ne h.own h.box (by decide) e.symm
  have n3 : some (w.heap.size + 1) ≠ v.ownBlock := fun e => own_blk_ne h.own h.res (by decide) e.symm
  have ht := ((Blk.alloc (t := 46) (show Blk wr g 46 _ from h.at_) o1).alloc o2).grown hg n1
  refine ⟨?_, ht, ((h.box.alloc o1).alloc o2).grown hg n2, ((h.res.alloc o1).alloc o2).grown hg n3, ((h.stp.alloc o1).alloc o2).grown hg fun k hk => .inr (h.own.lt k hk).1⟩
  rw [ha, pcells_append]
  exact hown

theorem res_fair {W : World} {N : Nat} {a b c d x y : Value} {tmps : Array Value} (h : Blk W N 23 #[a, b, c, d]) (h4 : tmps.getD 4 undef = x) (h5 : tmps.getD 5 undef = .pointer (some ⟨N, 0, none⟩)) (h6 : tmps.getD 6 undef = y) :
    (results Try.f8 tmps).run Try.prog W = .ok (.tuple #[x, .agg #[a, b, c, d], y]) W := by
  have c0 := h.cell 0
  have c1 := h.cell 1
  have c2 := h.cell 2
  have c3 := h.cell 3
  simp only [List.getElem?_toArray, List.getElem?_cons_zero, List.getElem?_cons_succ] at c0 c1 c2 c3
  simp only [Array.getD_eq_getD_getElem?] at h4 h5 h6
  simp [results, Try.results8, go_sem, h4, h5, h6, c0, c1, c2, c3]

/-- The end of fair: the bounds are laid into the result's cells. -/
theorem FairRel.end_ {st pa so : Int} {kn : Bool} {l : List (Int × Int)} {w : World} {g k : Nat} {v : Value} {wr : World} (h : FairRel st pa so kn l w g k v wr) (hk : (acc 0 (l.take 80)) = acc 0 (l.take k)) (hkn : k ≤ l.length) (hg : w.heap.size + 2 ≤ g) {W : World}
    (hW : W = wr ∨ ∃ o, W = wr.alloc o) (a b c d : Value) (e : Ending)
    (he : e = .returned (.tuple #[.pointer (some ⟨g, 0, none⟩), .agg #[.int .i64 (st % 1073741824), .int .i64 (fpa st pa), .int .i64 (so % 1099511627776), .bool kn], v])) :
    FairPost st pa so kn l w e ((((W.setCell ⟨w.heap.size + 1, 0, none⟩ a).setCell ⟨w.heap.size + 1, 1, none⟩ b).setCell ⟨w.heap.size + 1, 2, none⟩ c).setCell ⟨w.heap.size + 1, 3, none⟩ d).drew := by
  have n3 : v.ownBlock ≠ some (w.heap.size + 1) := own_blk_ne h.own h.res (by decide)
  have hb : Blk W g 46 #[.int .i64 (st % 1073741824), .int .i64 (fpa st pa), .int .i64 (so % 1099511627776), .int .i64 (if kn then 1 else 0), .int .i64 0, .bool true] := by
    rcases hW with rfl | ⟨o, rfl⟩
    · exact h.at_
    · exact Blk.alloc (t := 46) (show Blk wr g 46 _ from h.at_) o
  have ho : W.ownsRow w.heap.size 30 2 v k (pcells (acc 0 (l.take k))) := by rcases hW with rfl | ⟨o, rfl⟩; exact h.own; exact h.own.alloc o
  have hs : Stp [] w W := by rcases hW with rfl | ⟨o, rfl⟩; exact h.stp; exact h.stp.alloc o
  refine ⟨g, v, he, ?_, by omega, ?_, ?_⟩
  · exact ((((hb.far (by simp; omega) _).far (by simp; omega) _).far (by simp; omega) _).far (by simp; omega) _).drew
  · rw [hk, acc_length, List.length_take, Nat.min_eq_left hkn]
    exact own_far (own_far (own_far (own_far ho n3 _) n3 _) n3 _) n3 _
  · exact ((((hs.setCell (.inr (by simp)) _).setCell (.inr (by simp)) _).setCell (.inr (by simp)) _).setCell (.inr (by simp)) _).drew

set_option maxHeartbeats 1000000 in
theorem fair_any (st pa so : Int) (kn : Bool) (A : Option Addr) (n c : Nat) (l : List (Int × Int)) (w : World)
    (hr : Reads w w.heap.size 2 A n (pcells l)) (hl : l.length = n) (hn : n * 16 ≤ 140737488351232) :
    Calls Try.prog 8 #[.agg #[.int .i64 st, .int .i64 pa, .int .i64 so, .bool kn], .slice A n c] w (FairPost st pa so kn l w) := by
  have m30 := i64_mask30
  have m40 := i64_mask40
  have b1 : 0 ≤ st % 1073741824 ∧ st % 1073741824 < 1073741824 := by omega
  have b2 : 0 ≤ pa % 1099511627776 ∧ pa % 1099511627776 < 1099511627776 := by omega
  have b3 : 0 ≤ so % 1099511627776 ∧ so % 1099511627776 < 1099511627776 := by omega
  by_cases hp : 0 < pa % 1099511627776
  · have hpa : fpa st pa = pa % 1099511627776 + st % 1073741824 := by rw [fpa, if_pos hp]
    have HPA := Lib.hid hpa
    clear hpa
    go_enter Try.func8, Try.ntmps8
    go_wp2_with (first | (go_at_call 14; refine (new_any _ _ _ _ _ (isTime_mk (by omega) (by omega)) (isTime_mk (by omega) (by omega)) (isTime_mk (by omega) (by omega)) (by omega)).mono ?_; rintro e w1 ⟨g, rfl, hat, hst, hg⟩))
    obtain ⟨i0, hi, hz0, hz1, hz2⟩ := info_parts info30
    go_loopw [9, 10, 51] (fun v nw i wr => ∃ k : Nat, k ≤ n ∧ k ≤ 80 ∧ i = .int .i64 k ∧ nw = .int .i64 (accEnd 0 (l.take k)) ∧ FairRel st pa so kn l w g k v wr) (fun _ _ i _ => n - (intOf i).toNat)
    case atStart =>
      refine ⟨0, by omega, by omega, rfl, rfl, ⟨World.ownsRow_nil _ _ _ _, ?_, ?_, ?_, ?_⟩⟩
      · rw [HPA.out]; exact hat
      · rw [HPA.out]; exact hst.at ((Blk.new w 23 _).alloc _) (by simp)
      · have := hst.at (new_at (w.alloc _) _) (by simp)
        rw [World.size_alloc] at this
        exact this
      · exact ((Stp.refl [] w).alloc _ |>.alloc _).trans hst
    case round =>
      obtain ⟨k, hk, hk8, rfl, rfl, hR⟩ := hrel
      have hbl : Below w.heap.size w wr := hR.stp.below (Nat.le_refl _) (by simp)
      have hbd := accEnd_bd 0 (l.take k)
      rw [List.length_take, Nat.min_eq_left (by omega)] at hbd
      have hown := hR.own
      have HR := Lib.hid hR
      have hsz := hR.stp.size
      clear hR
      by_cases hlt : k < n
      · obtain ⟨b, off, rfl, hb, hc⟩ := hr.form (by omega) (by omega)
        have hx := (pcells_get l k (by omega))
        have hc0 : wr.cell? ⟨b, off + k * 2, none⟩ = some (.int .i64 l[k].1) := (hbl.cell (by exact hb)).trans (hc _ _ hx.1)
        have hc1 : wr.cell? ⟨b, off + k * 2 + 1, none⟩ = some (.int .i64 l[k].2) := (hbl.cell (by exact hb)).trans (hc _ _ hx.2)
        clear hx hc hbl
        by_cases h80 : k = 80
        · subst h80
          have bx := HR.out.box
          have br := HR.out.res
          have q0 : ∀ o, (wr.alloc o).cell? ⟨w.heap.size, 0, none⟩ = some (.int .i64 (st % 1073741824)) := fun o => (bx.alloc o).cell 0
          have q1 : ∀ o, (wr.alloc o).cell? ⟨w.heap.size, 1, none⟩ = some (.int .i64 (fpa st pa)) := fun o => (bx.alloc o).cell 1
          have q2 : ∀ o, (wr.alloc o).cell? ⟨w.heap.size, 2, none⟩ = some (.int .i64 (so % 1099511627776)) := fun o => (bx.alloc o).cell 2
          have q3 : ∀ o, (wr.alloc o).cell? ⟨w.heap.size, 3, none⟩ = some (.bool kn) := fun o => (bx.alloc o).cell 3
          have q4 : ∀ o, (wr.alloc o).cell? ⟨w.heap.size + 1, 0, none⟩ = some (.int .i64 0) := fun o => (br.alloc o).cell 0
          have q5 : ∀ o, (wr.alloc o).cell? ⟨w.heap.size + 1, 1, none⟩ = some (.int .i64 0) := fun o => (br.alloc o).cell 1
          have q6 : ∀ o, (wr.alloc o).cell? ⟨w.heap.size + 1, 2, none⟩ = some (.int .i64 0) := fun o => (br.alloc o).cell 2
          have q7 : ∀ o, (wr.alloc o).cell? ⟨w.heap.size + 1, 3, none⟩ = some (.bool false) := fun o => (br.alloc o).cell 3
          have f0 : ∀ o, (wr.alloc o).frozen? ⟨w.heap.size + 1, 0, none⟩ = false := fun o => (br.alloc o).frozen 0
          have f1 : ∀ o, (wr.alloc o).frozen? ⟨w.heap.size + 1, 1, none⟩ = false := fun o => (br.alloc o).frozen 1
          have f2 : ∀ o, (wr.alloc o).frozen? ⟨w.heap.size + 1, 2, none⟩ = false := fun o => (br.alloc o).frozen 2
          have f3 : ∀ o, (wr.alloc o).frozen? ⟨w.heap.size + 1, 3, none⟩ = false := fun o => (br.alloc o).frozen 3
          have BR := Lib.hid br
          clear bx br hown hbd
          go_wp2
          go_region
          go_wp2
          refine bodyPost_ret (res_fair (by exact (((((BR.out.alloc _).set_ 0 _).set_ 1 _).set_ 2 _).set_ 3 _).drew) rfl rfl rfl) rfl ?_
          exact HR.out.end_ rfl (by omega) (by simpa using hg) (.inr ⟨_, rfl⟩) _ _ _ _ _ rfl
        · have h80' : ((k : Int) == 80) = false := by simp; omega
          have hs := (acc_snoc 0 (l.take k) l[k])
          rw [← List.take_succ_eq_append_getElem (by omega)] at hs
          have HS := Lib.hid hs
          clear hs
          generalize accEnd 0 (l.take k) = s at *
          generalize hx1 : l[k].1 = x1 at *
          generalize hx2 : l[k].2 = x2 at *
          have HX1 := Lib.hid hx1
          have HX2 := Lib.hid hx2
          clear hx1 hx2
          go_wp2_with (at_builtin; refine wpList_append_own _ rfl _ _ 24 rfl w.heap.size 30 i0 (.agg #[.int .i64 0, .int .i64 0]) 2 16 Try.underlying24 hi hz0 hz1 hz2 rfl (by decide) _ _ _ rfl ((hown.alloc _).alloc _) ⟨wr.heap.size + 1, 0, none⟩ 1 1 [.int .i64 x1, .int .i64 (s + x2 % 1099511627776)] rfl rfl ?c1 ?c2 ?c3 ?c4 ?c5 ?_)
          case c1 =>
            intro j u hj
            match j, hj with
            | 0, hj => simp at hj; subst hj; simp [Addr.add]
            | 1, hj => simp at hj; subst hj; simp [Addr.add]
          case c2 => intro u hu; simp at hu; rcases hu with rfl | rfl <;> rfl
          case c3 => unfold maxLen; omega
          case c4 => omega
          case c5 => simp; omega
          · intro v' w2 hown' hgrow _
            have R := HR.out.step HS.out.1 hown' hgrow
            have R' := Lib.hid R
            clear R hown' hgrow hown hc0 hc1
            go_wp2
            go_roundw
            case rel => exact ⟨k + 1, by omega, by omega, by go_num, by rw [HS.out.2], R'.out⟩
            case measure => simp [intOf]; omega
      · obtain rfl : k = n := by omega
        have bx := HR.out.box
        have br := HR.out.res
        have q0 : wr.cell? ⟨w.heap.size, 0, none⟩ = some (.int .i64 (st % 1073741824)) := bx.cell 0
        have q1 : wr.cell? ⟨w.heap.size, 1, none⟩ = some (.int .i64 (fpa st pa)) := bx.cell 1
        have q2 : wr.cell? ⟨w.heap.size, 2, none⟩ = some (.int .i64 (so % 1099511627776)) := bx.cell 2
        have q3 : wr.cell? ⟨w.heap.size, 3, none⟩ = some (.bool kn) := bx.cell 3
        have q4 : wr.cell? ⟨w.heap.size + 1, 0, none⟩ = some (.int .i64 0) := br.cell 0
        have q5 : wr.cell? ⟨w.heap.size + 1, 1, none⟩ = some (.int .i64 0) := br.cell 1
        have q6 : wr.cell? ⟨w.heap.size + 1, 2, none⟩ = some (.int .i64 0) := br.cell 2
        have q7 : wr.cell? ⟨w.heap.size + 1, 3, none⟩ = some (.bool false) := br.cell 3
        have f0 : wr.frozen? ⟨w.heap.size + 1, 0, none⟩ = false := br.frozen 0
        have f1 : wr.frozen? ⟨w.heap.size + 1, 1, none⟩ = false := br.frozen 1
        have f2 : wr.frozen? ⟨w.heap.size + 1, 2, none⟩ = false := br.frozen 2
        have f3 : wr.frozen? ⟨w.heap.size + 1, 3, none⟩ = false := br.frozen 3
        have BR := Lib.hid br
        clear bx br hown hbd
        go_wp2
        go_region
        go_wp2
        refine bodyPost_ret (res_fair (by exact ((((BR.out.set_ 0 _).set_ 1 _).set_ 2 _).set_ 3 _).drew) rfl rfl rfl) rfl ?_
        exact HR.out.end_ (by rw [List.take_of_length_le (by omega), List.take_of_length_le (by omega)]) (by omega) (by simpa using hg) (.inl rfl) _ _ _ _ _ rfl
  · have hpa : fpa st pa = pa % 1099511627776 := by rw [fpa, if_neg hp]; omega
    have HPA := Lib.hid hpa
    clear hpa
    go_enter Try.func8, Try.ntmps8
    go_wp2_with (first | (go_at_call 14; refine (new_any _ _ _ _ _ (isTime_mk (by omega) (by omega)) (isTime_mk (by omega) (by omega)) (isTime_mk (by omega) (by omega)) (by omega)).mono ?_; rintro e w1 ⟨g, rfl, hat, hst, hg⟩))
    obtain ⟨i0, hi, hz0, hz1, hz2⟩ := info_parts info30
    go_loopw [9, 10, 51] (fun v nw i wr => ∃ k : Nat, k ≤ n ∧ k ≤ 80 ∧ i = .int .i64 k ∧ nw = .int .i64 (accEnd 0 (l.take k)) ∧ FairRel st pa so kn l w g k v wr) (fun _ _ i _ => n - (intOf i).toNat)
    case atStart =>
      refine ⟨0, by omega, by omega, rfl, rfl, ⟨World.ownsRow_nil _ _ _ _, ?_, ?_, ?_, ?_⟩⟩
      · rw [HPA.out]; exact hat
      · rw [HPA.out]; exact hst.at ((Blk.new w 23 _).alloc _) (by simp)
      · have := hst.at (new_at (w.alloc _) _) (by simp)
        rw [World.size_alloc] at this
        exact this
      · exact ((Stp.refl [] w).alloc _ |>.alloc _).trans hst
    case round =>
      obtain ⟨k, hk, hk8, rfl, rfl, hR⟩ := hrel
      have hbl : Below w.heap.size w wr := hR.stp.below (Nat.le_refl _) (by simp)
      have hbd := accEnd_bd 0 (l.take k)
      rw [List.length_take, Nat.min_eq_left (by omega)] at hbd
      have hown := hR.own
      have HR := Lib.hid hR
      have hsz := hR.stp.size
      clear hR
      by_cases hlt : k < n
      · obtain ⟨b, off, rfl, hb, hc⟩ := hr.form (by omega) (by omega)
        have hx := (pcells_get l k (by omega))
        have hc0 : wr.cell? ⟨b, off + k * 2, none⟩ = some (.int .i64 l[k].1) := (hbl.cell (by exact hb)).trans (hc _ _ hx.1)
        have hc1 : wr.cell? ⟨b, off + k * 2 + 1, none⟩ = some (.int .i64 l[k].2) := (hbl.cell (by exact hb)).trans (hc _ _ hx.2)
        clear hx hc hbl
        by_cases h80 : k = 80
        · subst h80
          have bx := HR.out.box
          have br := HR.out.res
          have q0 : ∀ o, (wr.alloc o).cell? ⟨w.heap.size, 0, none⟩ = some (.int .i64 (st % 1073741824)) := fun o => (bx.alloc o).cell 0
          have q1 : ∀ o, (wr.alloc o).cell? ⟨w.heap.size, 1, none⟩ = some (.int .i64 (fpa st pa)) := fun o => (bx.alloc o).cell 1
          have q2 : ∀ o, (wr.alloc o).cell? ⟨w.heap.size, 2, none⟩ = some (.int .i64 (so % 1099511627776)) := fun o => (bx.alloc o).cell 2
          have q3 : ∀ o, (wr.alloc o).cell? ⟨w.heap.size, 3, none⟩ = some (.bool kn) := fun o => (bx.alloc o).cell 3
          have q4 : ∀ o, (wr.alloc o).cell? ⟨w.heap.size + 1, 0, none⟩ = some (.int .i64 0) := fun o => (br.alloc o).cell 0
          have q5 : ∀ o, (wr.alloc o).cell? ⟨w.heap.size + 1, 1, none⟩ = some (.int .i64 0) := fun o => (br.alloc o).cell 1
          have q6 : ∀ o, (wr.alloc o).cell? ⟨w.heap.size + 1, 2, none⟩ = some (.int .i64 0) := fun o => (br.alloc o).cell 2
          have q7 : ∀ o, (wr.alloc o).cell? ⟨w.heap.size + 1, 3, none⟩ = some (.bool false) := fun o => (br.alloc o).cell 3
          have f0 : ∀ o, (wr.alloc o).frozen? ⟨w.heap.size + 1, 0, none⟩ = false := fun o => (br.alloc o).frozen 0
          have f1 : ∀ o, (wr.alloc o).frozen? ⟨w.heap.size + 1, 1, none⟩ = false := fun o => (br.alloc o).frozen 1
          have f2 : ∀ o, (wr.alloc o).frozen? ⟨w.heap.size + 1, 2, none⟩ = false := fun o => (br.alloc o).frozen 2
          have f3 : ∀ o, (wr.alloc o).frozen? ⟨w.heap.size + 1, 3, none⟩ = false := fun o => (br.alloc o).frozen 3
          have BR := Lib.hid br
          clear bx br hown hbd
          go_wp2
          go_region
          go_wp2
          refine bodyPost_ret (res_fair (by exact (((((BR.out.alloc _).set_ 0 _).set_ 1 _).set_ 2 _).set_ 3 _).drew) rfl rfl rfl) rfl ?_
          exact HR.out.end_ rfl (by omega) (by simpa using hg) (.inr ⟨_, rfl⟩) _ _ _ _ _ rfl
        · have h80' : ((k : Int) == 80) = false := by simp; omega
          have hs := (acc_snoc 0 (l.take k) l[k])
          rw [← List.take_succ_eq_append_getElem (by omega)] at hs
          have HS := Lib.hid hs
          clear hs
          generalize accEnd 0 (l.take k) = s at *
          generalize hx1 : l[k].1 = x1 at *
          generalize hx2 : l[k].2 = x2 at *
          have HX1 := Lib.hid hx1
          have HX2 := Lib.hid hx2
          clear hx1 hx2
          go_wp2_with (at_builtin; refine wpList_append_own _ rfl _ _ 24 rfl w.heap.size 30 i0 (.agg #[.int .i64 0, .int .i64 0]) 2 16 Try.underlying24 hi hz0 hz1 hz2 rfl (by decide) _ _ _ rfl ((hown.alloc _).alloc _) ⟨wr.heap.size + 1, 0, none⟩ 1 1 [.int .i64 x1, .int .i64 (s + x2 % 1099511627776)] rfl rfl ?c1 ?c2 ?c3 ?c4 ?c5 ?_)
          case c1 =>
            intro j u hj
            match j, hj with
            | 0, hj => simp at hj; subst hj; simp [Addr.add]
            | 1, hj => simp at hj; subst hj; simp [Addr.add]
          case c2 => intro u hu; simp at hu; rcases hu with rfl | rfl <;> rfl
          case c3 => unfold maxLen; omega
          case c4 => omega
          case c5 => simp; omega
          · intro v' w2 hown' hgrow _
            have R := HR.out.step HS.out.1 hown' hgrow
            have R' := Lib.hid R
            clear R hown' hgrow hown hc0 hc1
            go_wp2
            go_roundw
            case rel => exact ⟨k + 1, by omega, by omega, by go_num, by rw [HS.out.2], R'.out⟩
            case measure => simp [intOf]; omega
      · obtain rfl : k = n := by omega
        have bx := HR.out.box
        have br := HR.out.res
        have q0 : wr.cell? ⟨w.heap.size, 0, none⟩ = some (.int .i64 (st % 1073741824)) := bx.cell 0
        have q1 : wr.cell? ⟨w.heap.size, 1, none⟩ = some (.int .i64 (fpa st pa)) := bx.cell 1
        have q2 : wr.cell? ⟨w.heap.size, 2, none⟩ = some (.int .i64 (so % 1099511627776)) := bx.cell 2
        have q3 : wr.cell? ⟨w.heap.size, 3, none⟩ = some (.bool kn) := bx.cell 3
        have q4 : wr.cell? ⟨w.heap.size + 1, 0, none⟩ = some (.int .i64 0) := br.cell 0
        have q5 : wr.cell? ⟨w.heap.size + 1, 1, none⟩ = some (.int .i64 0) := br.cell 1
        have q6 : wr.cell? ⟨w.heap.size + 1, 2, none⟩ = some (.int .i64 0) := br.cell 2
        have q7 : wr.cell? ⟨w.heap.size + 1, 3, none⟩ = some (.bool false) := br.cell 3
        have f0 : wr.frozen? ⟨w.heap.size + 1, 0, none⟩ = false := br.frozen 0
        have f1 : wr.frozen? ⟨w.heap.size + 1, 1, none⟩ = false := br.frozen 1
        have f2 : wr.frozen? ⟨w.heap.size + 1, 2, none⟩ = false := br.frozen 2
        have f3 : wr.frozen? ⟨w.heap.size + 1, 3, none⟩ = false := br.frozen 3
        have BR := Lib.hid br
        clear bx br hown hbd
        go_wp2
        go_region
        go_wp2
        refine bodyPost_ret (res_fair (by exact ((((BR.out.set_ 0 _).set_ 1 _).set_ 2 _).set_ 3 _).drew) rfl rfl rfl) rfl ?_
        exact HR.out.end_ (by rw [List.take_of_length_le (by omega), List.take_of_length_le (by omega)]) (by omega) (by simpa using hg) (.inl rfl) _ _ _ _ _ rfl
end Go.Proofs.Yteoglmbmbejlaaa
