/- smear: the plain law of leaps: what each has taken, how all of them grow. -/
import Derived.Test.YtbjjfjgomkmdhaaFix
namespace Go.Proofs.Ytbjjfjgomkmdhaa
set_option linter.unusedVariables false
set_option linter.unusedSimpArgs false

def leapsS : Int → List (Int × Int) → Bool
  | _, [] => true
  | least, x :: l => if x.1 < least ∨ 4611686018427387904 < x.1 ∨ (x.2 ≠ 1 ∧ x.2 ≠ -1) then false else leapsS (x.1 + 172800000000000) l
/-- What a table holds. -/
structure LOk (L : List (Int × Int)) : Prop where
  len : L.length ≤ 32
  each : ∀ x ∈ L, 86400000000000 ≤ x.1 ∧ x.1 ≤ 4611686018427387904 ∧ (x.2 = 1 ∨ x.2 = -1)
  rise : L.Pairwise fun x y => x.1 + 172800000000000 ≤ y.1
theorem leapsS_facts : ∀ (L : List (Int × Int)) (least : Int), leapsS least L = true → (∀ x ∈ L, least ≤ x.1 ∧ x.1 ≤ 4611686018427387904 ∧ (x.2 = 1 ∨ x.2 = -1)) ∧ L.Pairwise fun x y => x.1 + 172800000000000 ≤ y.1
  | [], _, _ => ⟨by simp, .nil⟩
  | x :: l, least, h => by
    unfold leapsS at h
    split at h
    · cases h
    · rename_i hn
      obtain ⟨h1, h2⟩ := leapsS_facts l _ h
      have hx : least ≤ x.1 ∧ x.1 ≤ 4611686018427387904 ∧ (x.2 = 1 ∨ x.2 = -1) := by omega
      refine ⟨fun y hy => ?_, .cons (fun y hy => (h1 y hy).1) h2⟩
      rcases List.mem_cons.1 hy with rfl | hy
      · exact hx
      · have := h1 y hy; omega
theorem leapsS_of : ∀ (L : List (Int × Int)) (least : Int), (∀ x ∈ L, least ≤ x.1 ∧ x.1 ≤ 4611686018427387904 ∧ (x.2 = 1 ∨ x.2 = -1)) → (L.Pairwise fun x y => x.1 + 172800000000000 ≤ y.1) → leapsS least L = true
  | [], _, _, _ => rfl
  | x :: l, least, h, hp => by
    unfold leapsS
    have hx := h x (List.mem_cons_self ..)
    rw [if_neg (by omega)]
    rw [List.pairwise_cons] at hp
    exact leapsS_of l _ (fun y hy => ⟨hp.1 y hy, (h y (List.mem_cons_of_mem _ hy)).2⟩) hp.2
theorem LOk.of {L : List (Int × Int)} (h : leapsS 86400000000000 L = true) (hl : L.length ≤ 32) : LOk L :=
  ⟨hl, (leapsS_facts L _ h).1, (leapsS_facts L _ h).2⟩
theorem LOk.leaps {L : List (Int × Int)} (h : LOk L) : leapsS 86400000000000 L = true := leapsS_of L _ h.each h.rise
theorem LOk.nil : LOk [] := ⟨by simp, by simp, .nil⟩

def goneS (t a : Int) : Int := clampS (t - (a - 43200000000000)) 0 86400000000000
def oneS (t : Int) (x : Int × Int) : Int := goneS t x.1 / 86400 * x.2
def takenS (t : Int) (L : List (Int × Int)) : Int := (L.map (oneS t)).sum
def goneAll (t : Int) (L : List (Int × Int)) : Int := (L.map fun x => goneS t x.1).sum
def partAll (t : Int) (L : List (Int × Int)) : Int := (L.map fun x => goneS t x.1 / 86400).sum
def instS (t : Int) : Int := clampS t 0 4611686018427387904
def toS (L : List (Int × Int)) (t : Int) : Int := instS t - takenS (instS t) L

theorem takenS_nil (t : Int) : takenS t [] = 0 := rfl
theorem takenS_cons (t : Int) (x : Int × Int) (L : List (Int × Int)) : takenS t (x :: L) = oneS t x + takenS t L := by simp [takenS]
theorem takenS_append (t : Int) (L M : List (Int × Int)) : takenS t (L ++ M) = takenS t L + takenS t M := by simp [takenS, List.sum_append]
theorem goneAll_cons (t : Int) (x : Int × Int) (L : List (Int × Int)) : goneAll t (x :: L) = goneS t x.1 + goneAll t L := by simp [goneAll]
theorem partAll_cons (t : Int) (x : Int × Int) (L : List (Int × Int)) : partAll t (x :: L) = goneS t x.1 / 86400 + partAll t L := by simp [partAll]

theorem goneS_mm (t a : Int) : goneS t a = max 0 (min (t - (a - 43200000000000)) 86400000000000) := by unfold goneS clampS; (repeat' split) <;> omega
theorem instS_mm (t : Int) : instS t = max 0 (min t 4611686018427387904) := by unfold instS clampS; (repeat' split) <;> omega
theorem instS_bd (t : Int) : 0 ≤ instS t ∧ instS t ≤ 4611686018427387904 := by rw [instS_mm]; omega
theorem instS_id {t : Int} (h0 : 0 ≤ t) (h1 : t ≤ 4611686018427387904) : instS t = t := by rw [instS_mm]; omega
theorem instS_inst (t : Int) : instS (instS t) = instS t := instS_id (instS_bd t).1 (instS_bd t).2
theorem goneS_bd (t a : Int) : 0 ≤ goneS t a ∧ goneS t a ≤ 86400000000000 := by rw [goneS_mm]; omega
theorem goneS_mono {t s : Int} (a : Int) (h : t ≤ s) : goneS t a ≤ goneS s a := by rw [goneS_mm, goneS_mm]; omega
theorem goneS_lip {t s : Int} (a : Int) (h : t ≤ s) : goneS s a - goneS t a ≤ s - t := by rw [goneS_mm, goneS_mm]; omega
theorem oneS_bd (t : Int) {x : Int × Int} (hk : x.2 = 1 ∨ x.2 = -1) : -1000000000 ≤ oneS t x ∧ oneS t x ≤ 1000000000 := by
  have := goneS_bd t x.1
  unfold oneS
  rcases hk with h | h <;> rw [h] <;> omega
theorem goneAll_zero {t : Int} : ∀ {L : List (Int × Int)}, (∀ x ∈ L, t ≤ x.1 - 43200000000000) → goneAll t L = 0
  | [], _ => rfl
  | x :: L, h => by
    rw [goneAll_cons, goneAll_zero (fun y hy => h y (List.mem_cons_of_mem _ hy)), goneS_mm]
    have := h x (List.mem_cons_self ..)
    omega
theorem partAll_zero {t : Int} : ∀ {L : List (Int × Int)}, (∀ x ∈ L, t ≤ x.1 - 43200000000000) → partAll t L = 0
  | [], _ => rfl
  | x :: L, h => by
    rw [partAll_cons, partAll_zero (fun y hy => h y (List.mem_cons_of_mem _ hy)), goneS_mm]
    have := h x (List.mem_cons_self ..)
    omega
theorem takenS_zero {t : Int} : ∀ {L : List (Int × Int)}, (∀ x ∈ L, t ≤ x.1 - 43200000000000) → takenS t L = 0
  | [], _ => rfl
  | x :: L, h => by
    have e : goneS t x.1 = 0 := by
      rw [goneS_mm]
      have := h x (List.mem_cons_self ..)
      omega
    rw [takenS_cons, takenS_zero (fun y hy => h y (List.mem_cons_of_mem _ hy))]
    unfold oneS
    rw [e]
    simp
theorem takenS_bd (t : Int) : ∀ {L : List (Int × Int)}, (∀ x ∈ L, x.2 = 1 ∨ x.2 = -1) → -(L.length * 1000000000 : Int) ≤ takenS t L ∧ takenS t L ≤ L.length * 1000000000
  | [], _ => by simp [takenS]
  | x :: L, h => by
    have h1 := takenS_bd t (L := L) (fun y hy => h y (List.mem_cons_of_mem _ hy))
    have h2 := oneS_bd t (h x (List.mem_cons_self ..))
    rw [takenS_cons, List.length_cons]
    omega

/-- What is behind a leap whose day has not ended has taken nothing. -/
theorem takenS_break {t : Int} {x : Int × Int} {L : List (Int × Int)} (hp : (x :: L).Pairwise fun x y => x.1 + 172800000000000 ≤ y.1) (hg : goneS t x.1 < 86400000000000) : takenS t L = 0 := by
  rw [List.pairwise_cons] at hp
  apply takenS_zero
  intro y hy
  have := hp.1 y hy
  rw [goneS_mm] at hg
  omega

theorem partAll_eq (t : Int) : ∀ {L : List (Int × Int)}, (L.Pairwise fun x y => x.1 + 172800000000000 ≤ y.1) → partAll t L = goneAll t L / 86400
  | [], _ => rfl
  | x :: L, h => by
    have h1 := partAll_eq t (List.pairwise_cons.1 h).2
    rw [partAll_cons, goneAll_cons]
    have hb := goneS_bd t x.1
    by_cases hg : goneS t x.1 < 86400000000000
    · have hz : ∀ y ∈ L, t ≤ y.1 - 43200000000000 := by
        intro y hy
        have := (List.pairwise_cons.1 h).1 y hy
        rw [goneS_mm] at hg
        omega
      rw [goneAll_zero hz, partAll_zero hz]
      omega
    · rw [h1]
      omega
theorem goneAll_lip {t s : Int} (hts : t ≤ s) : ∀ {L : List (Int × Int)}, (L.Pairwise fun x y => x.1 + 172800000000000 ≤ y.1) → 0 ≤ goneAll s L - goneAll t L ∧ goneAll s L - goneAll t L ≤ s - t
  | [], _ => by simp [goneAll]; omega
  | x :: L, h => by
    rw [List.pairwise_cons] at h
    have hm := goneS_mono x.1 hts
    have hl := goneS_lip x.1 hts
    rw [goneAll_cons, goneAll_cons]
    by_cases h1 : s ≤ x.1 + 43200000000000
    · have hz : ∀ u, u ≤ s → ∀ y ∈ L, u ≤ y.1 - 43200000000000 := by
        intro u hu y hy
        have := h.1 y hy
        omega
      rw [goneAll_zero (hz s (Int.le_refl _)), goneAll_zero (hz t hts)]
      omega
    · by_cases h2 : x.1 + 43200000000000 ≤ t
      · have := goneAll_lip hts h.2
        have e1 : goneS s x.1 = 86400000000000 := by rw [goneS_mm]; omega
        have e2 : goneS t x.1 = 86400000000000 := by rw [goneS_mm]; omega
        omega
      · have := goneAll_lip (t := x.1 + 43200000000000) (s := s) (by omega) h.2
        have hz : ∀ u, u ≤ x.1 + 43200000000000 → ∀ y ∈ L, u ≤ y.1 - 43200000000000 := by
          intro u hu y hy
          have := h.1 y hy
          omega
        rw [goneAll_zero (hz t (by omega))]
        rw [goneAll_zero (hz (x.1 + 43200000000000) (by omega))] at this
        have e1 : goneS s x.1 = 86400000000000 := by rw [goneS_mm]; omega
        rw [e1]
        have := goneS_mm t x.1
        omega
theorem takenS_part {t s : Int} (hts : t ≤ s) : ∀ {L : List (Int × Int)}, (∀ x ∈ L, x.2 = 1 ∨ x.2 = -1) → -(partAll s L - partAll t L) ≤ takenS s L - takenS t L ∧ takenS s L - takenS t L ≤ partAll s L - partAll t L
  | [], _ => by simp [takenS, partAll]
  | x :: L, h => by
    have h1 := takenS_part hts (L := L) (fun y hy => h y (List.mem_cons_of_mem _ hy))
    have hm := goneS_mono x.1 hts
    rw [takenS_cons, takenS_cons, partAll_cons, partAll_cons]
    unfold oneS
    rcases h x (List.mem_cons_self ..) with hk | hk <;> rw [hk] <;> omega
/-- Over d nanoseconds what was taken turns by an 86400th of d at most, and 1. -/
theorem takenS_lip {t s : Int} {L : List (Int × Int)} (ok : LOk L) (hts : t ≤ s) : -((s - t) / 86400 + 1) ≤ takenS s L - takenS t L ∧ takenS s L - takenS t L ≤ (s - t) / 86400 + 1 ∧ -(s - t) ≤ takenS s L - takenS t L ∧ takenS s L - takenS t L ≤ s - t := by
  have h1 := takenS_part hts (L := L) (fun x hx => (ok.each x hx).2.2)
  have h2 := goneAll_lip hts ok.rise
  rw [partAll_eq s ok.rise, partAll_eq t ok.rise] at h1
  omega
theorem toS_in {L : List (Int × Int)} {t : Int} (h0 : 0 ≤ t) (h1 : t ≤ 4611686018427387904) : toS L t = t - takenS t L := by unfold toS; rw [instS_id h0 h1]
theorem toS_mono {L : List (Int × Int)} (ok : LOk L) {t s : Int} (hts : t ≤ s) : toS L t ≤ toS L s := by
  have h : instS t ≤ instS s := by rw [instS_mm, instS_mm]; omega
  have := takenS_lip ok h
  unfold toS
  omega
theorem toS_step {L : List (Int × Int)} (ok : LOk L) (t : Int) : toS L (t + 1) ≤ toS L t + 2 := by
  have h : instS t ≤ instS (t + 1) := by rw [instS_mm, instS_mm]; omega
  have h1 : instS (t + 1) - instS t ≤ 1 := by rw [instS_mm, instS_mm]; omega
  have := takenS_lip ok h
  unfold toS
  omega
theorem taken_zero {L : List (Int × Int)} (ok : LOk L) {t : Int} (h : t ≤ 43200000000000) : takenS t L = 0 :=
  takenS_zero fun x hx => by have := (ok.each x hx).1; omega
theorem toS_bd {L : List (Int × Int)} (ok : LOk L) (t : Int) : 0 ≤ toS L t ∧ toS L t ≤ 4611686050427387904 := by
  have hb := instS_bd t
  have h1 := takenS_lip ok hb.1
  rw [taken_zero ok (t := 0) (by decide)] at h1
  have h2 := takenS_bd (instS t) (L := L) (fun x hx => (ok.each x hx).2.2)
  have h3 := ok.len
  unfold toS
  omega
/-- Which leap's day an instant stands in. -/
def inS (t : Int) (x : Int × Int) : Bool := decide (x.1 - 43200000000000 ≤ t ∧ t < x.1 + 43200000000000)
/-- The first that may be; -1: none. -/
def idxS {α : Type} (f : α → Bool) : List α → Int
  | [] => -1
  | x :: l => if f x = true then 0 else if idxS f l < 0 then -1 else idxS f l + 1
theorem idxS_bd {α : Type} (f : α → Bool) : ∀ l : List α, -1 ≤ idxS f l
  | [] => by simp [idxS]
  | x :: l => by
    have := idxS_bd f l
    unfold idxS
    split
    · omega
    · split <;> omega
theorem idxS_lt {α : Type} (f : α → Bool) : ∀ l : List α, idxS f l < l.length
  | [] => by simp [idxS]
  | x :: l => by
    have := idxS_lt f l
    unfold idxS
    simp only [List.length_cons]
    split
    · omega
    · split <;> omega
theorem idxS_none {α : Type} {f : α → Bool} : ∀ {l : List α}, (∀ x ∈ l, f x = false) → idxS f l = -1
  | [], _ => rfl
  | x :: l, h => by
    unfold idxS
    rw [idxS_none (fun y hy => h y (List.mem_cons_of_mem _ hy)), h x (List.mem_cons_self ..)]
    simp
theorem idxS_some {α : Type} {f : α → Bool} : ∀ {l : List α} {k : Nat} (hk : k < l.length), (∀ j (hj : j < k), f l[j] = false) → f l[k] = true → idxS f l = k
  | [], k, hk, _, _ => by simp at hk
  | x :: l, 0, hk, h, ht => by
    unfold idxS
    simp at ht
    simp [ht]
  | x :: l, k + 1, hk, h, ht => by
    have h0 := h 0 (by omega)
    simp at h0 ht hk
    have ih := idxS_some (f := f) (l := l) (k := k) hk (fun j hj => by simpa using h (j + 1) (by omega)) ht
    unfold idxS
    rw [ih, h0]
    simp
    omega

end Go.Proofs.Ytbjjfjgomkmdhaa
