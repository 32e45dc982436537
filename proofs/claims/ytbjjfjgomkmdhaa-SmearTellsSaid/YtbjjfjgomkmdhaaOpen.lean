/- Arguments opened: slices of structs and of whole numbers as lists that lie in memory; how long they may be (one lemma is turned from the guide's texts that are laid out for this). -/
import Derived.Test.YtbjjfjgomkmdhaaWords
import Derived.Deep.Slices
import Derived.Deep.Fields
import Derived.ChangeSame
import Derived.SizedLaws
import Derived.ChangeSlices
import Derived.OpenShut
import Derived.WalkKit
import Derived.ProofKit
namespace Go.Proofs.Ytbjjfjgomkmdhaa
open Go.ChangeShapes Go.WideShapes Go.Deep Go.RowKit
set_option linter.unusedVariables false
set_option linter.unusedSimpArgs false

section
variable {H : Type} {enc : TypeId × Value → H} {P : Program} {w : World} {base : Nat} {spare : Nat → Bool} {held : Bool}
theorem open_slice_fields {t e : TypeId} {fs : Array Field} {fuel : Nat} {cs : List Value} {x : DataW H × List MemPlace} (ht : P.underlying t = some (.slice e)) (he : P.underlying e = some (.struct fs))
    (hone : oneCellFields P fs = true) (hC : P.cellsOf e = fs.size) (h : DataW.trod enc P w base spare held fuel t cs = some x) :
    (cs = [.slice none 0 0] ∧ x = (.nil, [])) ∨
    ∃ (a : Addr) (len cap m : Nat) (D : Nat → DataW H) (Pl : Nat → List MemPlace), cs = [.slice (some a) len cap] ∧ base ≤ a.block ∧ len ≤ cap ∧ cap ≤ maxLen ∧ m = (if spare a.block then cap else len) ∧
      x = (.slice ((List.range len).map D) ((List.range (m - len)).map fun j => D (len + j)), MemPlace.row a (m * fs.size) ++ (List.range m).flatMap Pl) ∧
      ∀ i, i < m → ∃ (ys : List (DataW H × List MemPlace)) (n : Nat), D i = .agg (ys.map (·.1)) ∧ Pl i = ys.flatMap (·.2) ∧ ys.length = fs.size ∧
        ∀ (j : Nat) (f : Field), fs[j]? = some f → ∃ (v : Value) (y : DataW H × List MemPlace), w.cell? (a.add (i * fs.size + j)) = some v ∧ ys[j]? = some y ∧ DataW.trod enc P w base spare held n f.type [v] = some y := by
  rcases open_slice ht h with h0 | ⟨a, len, cap, m, n, D, Pl, hcs, hb, hl, hm, hmm, hx, hi⟩
  · exact .inl h0
  · refine .inr ⟨a, len, cap, m, D, Pl, hcs, hb, hl, hm, hmm, by rw [hC] at hx; exact hx, fun i him => ?_⟩
    obtain ⟨cs', hc, ht'⟩ := hi i him
    rw [hC] at hc
    obtain ⟨ys, n', hn', hy, hlen, hyl, hf⟩ := DataW.trod_struct he ht'
    obtain ⟨_, hcl, hat⟩ := World.cells?_some hc
    simp only [Prod.mk.injEq] at hy
    refine ⟨ys, n', hy.1, hy.2, hyl, fun j f hj => ?_⟩
    obtain ⟨ho, hk⟩ := hone_of hone j f hj
    have hjl : j < fs.size := (Array.getElem?_eq_some_iff.1 hj).1
    have hcell := hat j hjl
    have hv : cs'[j]? = some (cs'[j]'(by omega)) := List.getElem?_eq_getElem (by omega)
    have h1 := hf j f hj
    rw [ho, hk] at h1
    have hone' : (cs'.drop j).take 1 = [cs'[j]'(by omega)] := by
      rw [List.drop_eq_getElem_cons (by omega)]
      rfl
    rw [hone'] at h1
    have hys : ys[j]? = some (ys[j]'(by omega)) := List.getElem?_eq_getElem (by omega)
    refine ⟨_, _, ?_, hys, h1.trans hys⟩
    rw [← Go.Deep.add_add, hcell, hv]
end

theorem exists_list {α : Type} {P : Nat → α → Prop} : ∀ n, (∀ i, i < n → ∃ x, P i x) → ∃ l : List α, l.length = n ∧ ∀ i (h : i < l.length), P i l[i]
  | 0, _ => ⟨[], rfl, fun i h => absurd h (by simp)⟩
  | n + 1, h => by
    obtain ⟨l, hl, hp⟩ := exists_list n (fun i hi => h i (by omega))
    obtain ⟨x, hx⟩ := h n (by omega)
    refine ⟨l ++ [x], by simp [hl], fun i hi => ?_⟩
    rcases Nat.lt_or_ge i l.length with h1 | h1
    · rw [List.getElem_append_left h1]; exact hp i h1
    · have : i = n := by simp [hl] at hi; omega
      subst this
      rw [List.getElem_append_right (by omega)]
      simpa [hl] using hx

/-- A list's elements, cell by cell. -/
theorem flatMap_get {α : Type} (enc : α → List Value) (size : Nat) (hlen : ∀ x, (enc x).length = size) : ∀ (l : List α) (j : Nat) (u : Value), (l.flatMap enc)[j]? = some u →
    ∃ i r, ∃ h : i < l.length, r < size ∧ j = i * size + r ∧ (enc l[i])[r]? = some u
  | [], j, u, h => by simp at h
  | x :: l, j, u, h => by
    rw [List.flatMap_cons] at h
    rcases Nat.lt_or_ge j size with h1 | h1
    · rw [List.getElem?_append_left (by rw [hlen]; exact h1)] at h
      exact ⟨0, j, by simp, h1, by simp, by simpa using h⟩
    · rw [List.getElem?_append_right (by rw [hlen]; exact h1), hlen] at h
      obtain ⟨i, r, hi, hr, hj, hu⟩ := flatMap_get enc size hlen l (j - size) u h
      exact ⟨i + 1, r, by simpa using hi, hr, by rw [Nat.succ_mul]; omega, by simpa using hu⟩
theorem flatMap_length {α : Type} (enc : α → List Value) (size : Nat) (hlen : ∀ x, (enc x).length = size) (l : List α) : (l.flatMap enc).length = l.length * size := by
  induction l with
  | nil => simp
  | cons x l ih => rw [List.flatMap_cons, List.length_append, ih, hlen, List.length_cons, Nat.succ_mul]; omega

section
variable {H : Type} {enc : TypeId × Value → H} {P : Program} {W : World} {base : Nat} {spare : Nat → Bool} {held : Bool}
/-- A slice of structs of one-cell fields comes in: it reads as a list, and is no longer than its weight allows. -/
theorem open_list {α : Type} {Q : α → Prop} (cs : α → List Value) {t e : TypeId} {fs : Array Field} {a : Option Addr} {len cap : Nat} {d : DataW H} {ps : List MemPlace} {ts : List TypeId} {ds : List (DataW H)} {j : Nat} {B : Nat}
    (hsz : (DataW.weightsEach P ts ds).all (· ≤ reachBytes) = true) (hj : ts[j]? = some t) (hd : ds[j]? = some d)
    (ht : P.underlying t = some (.slice e)) (he : P.underlying e = some (.struct fs)) (hone : oneCellFields P fs = true) (hC : P.cellsOf e = fs.size) (hB : P.bytesOf e = B) (hlen : ∀ x, (cs x).length = fs.size) (hfs : 0 < fs.size)
    (hQ : ∀ (n : Nat) (ys : List (DataW H × List MemPlace)) (f : Nat → Option Value), (∀ (j : Nat) (fd : Field), fs[j]? = some fd → ∃ (v : Value) (y : DataW H × List MemPlace), f j = some v ∧ ys[j]? = some y ∧ DataW.trod enc P W base spare held n fd.type [v] = some y) → ∃ x, Q x ∧ ∀ j u, (cs x)[j]? = some u → f j = some u)
    (h : DataW.Trod enc P W base spare held t (.slice a len cap) d ps) (hlt : ∀ x ∈ ps, x.block < W.heap.size) :
    ∃ l : List α, l.length = len ∧ (∀ x ∈ l, Q x) ∧ Reads W W.heap.size fs.size a len (l.flatMap cs) ∧ len * B ≤ 140737488351232 := by
  obtain ⟨fuel, hf⟩ := h
  rcases open_slice_fields ht he hone hC hf with ⟨hcs, hx⟩ | ⟨x, l0, c0, m, D, Pl, hcs, hb, hl, hm, hmm, hx, hi⟩
  · simp [Value.cells] at hcs
    obtain ⟨rfl, rfl, rfl⟩ := hcs
    exact ⟨[], rfl, by simp, Reads.none_, by simp⟩
  · simp [Value.cells] at hcs
    obtain ⟨rfl, rfl, rfl⟩ := hcs
    have hlm : len ≤ m := by rw [hmm]; split <;> omega
    obtain ⟨l, hll, hp⟩ := exists_list (P := fun i (x' : α) => Q x' ∧ ∀ r u, (cs x')[r]? = some u → W.cell? (x.add (i * fs.size + r)) = some u) len (fun i hil => by
      obtain ⟨ys, n, _, _, _, hfld⟩ := hi i (by omega)
      exact hQ n ys (fun r => W.cell? (x.add (i * fs.size + r))) hfld)
    refine ⟨l, hll, ?_, ⟨by rw [flatMap_length cs fs.size hlen, hll], fun hn => ⟨x, rfl, ?_, ?_⟩⟩, ?_⟩
    · intro y hy
      obtain ⟨i, hi', rfl⟩ := List.getElem_of_mem hy
      exact (hp i hi').1
    · have hps : MemPlace.cell x.block x.off ∈ ps := by
        have hx2 : ps = _ := (Prod.mk.inj hx).2
        rw [hx2, List.mem_append]
        left
        have : 0 < m * fs.size := Nat.mul_pos (by omega) hfs
        obtain ⟨q, hq⟩ : ∃ q, m * fs.size = q + 1 := ⟨m * fs.size - 1, by omega⟩
        rw [hq]
        simp [MemPlace.row, List.range_succ_eq_map]
      exact hlt _ hps
    · intro r u hu
      obtain ⟨i, r', hi', hr', rfl, hu'⟩ := flatMap_get cs fs.size hlen l r u hu
      exact (hp i hi').2 r' u hu'
    · obtain ⟨hx1, _⟩ := Prod.mk.inj hx
      subst hx1
      have z := sized_slice hsz hj hd ht
      rw [hB] at z
      refine Nat.le_trans (Nat.mul_le_mul_right _ ?_) z
      simp
/-- A slice of whole numbers comes in: it reads as a list, and is no longer than its weight allows. -/
theorem open_nums {t e : TypeId} {k : IntKind} {a : Option Addr} {len cap : Nat} {d : DataW H} {ps : List MemPlace} {ts : List TypeId} {ds : List (DataW H)} {j : Nat} {B : Nat}
    (hsz : (DataW.weightsEach P ts ds).all (· ≤ reachBytes) = true) (hj : ts[j]? = some t) (hd : ds[j]? = some d)
    (ht : P.underlying t = some (.slice e)) (he : P.underlying e = some (.int k)) (hC : P.cellsOf e = 1) (hB : P.bytesOf e = B)
    (h : DataW.Trod enc P W base spare held t (.slice a len cap) d ps) (hlt : ∀ x ∈ ps, x.block < W.heap.size) :
    ∃ l : List Int, l.length = len ∧ (∀ x ∈ l, (Lit.int k x).wf = true) ∧ Reads W W.heap.size 1 a len (l.map (Value.int k)) ∧ len * B ≤ 140737488351232 := by
  obtain ⟨fuel, hf⟩ := h
  rcases open_slice1 ht hC hf with ⟨hcs, hx⟩ | ⟨x, l0, c0, m, n, V, D, Pl, hcs, hb, hl, hm, hmm, hx, hi⟩
  · simp [Value.cells] at hcs
    obtain ⟨rfl, rfl, rfl⟩ := hcs
    exact ⟨[], rfl, by simp, Reads.none_, by simp⟩
  · simp [Value.cells] at hcs
    obtain ⟨rfl, rfl, rfl⟩ := hcs
    have hlm : len ≤ m := by rw [hmm]; split <;> omega
    obtain ⟨l, hll, hp⟩ := exists_list (P := fun i (x' : Int) => (Lit.int k x').wf = true ∧ W.cell? (x.add i) = some (.int k x')) len (fun i hil => by
      obtain ⟨hc1, ht1⟩ := hi i (by omega)
      obtain ⟨b, eb, _, ub⟩ := DataW.trod_int he ht1
      simp at eb
      rw [eb] at hc1
      exact ⟨b, ub, hc1⟩)
    refine ⟨l, hll, ?_, ⟨by simp [hll], fun hn => ⟨x, rfl, ?_, ?_⟩⟩, ?_⟩
    · intro y hy
      obtain ⟨i, hi', rfl⟩ := List.getElem_of_mem hy
      exact (hp i hi').1
    · have hps : MemPlace.cell x.block x.off ∈ ps := by
        have hx2 : ps = _ := (Prod.mk.inj hx).2
        rw [hx2, List.mem_append]
        left
        obtain ⟨q, hq⟩ : ∃ q, m = q + 1 := ⟨m - 1, by omega⟩
        rw [hq]
        simp [MemPlace.row, List.range_succ_eq_map]
      exact hlt _ hps
    · intro r u hu
      rw [List.getElem?_map] at hu
      obtain ⟨v, hv, rfl⟩ := Option.map_eq_some_iff.1 hu
      obtain ⟨hr, rfl⟩ := List.getElem?_eq_some_iff.1 hv
      exact (hp r hr).2
    · obtain ⟨hx1, _⟩ := Prod.mk.inj hx
      subst hx1
      have z := sized_slice hsz hj hd ht
      rw [hB] at z
      refine Nat.le_trans (Nat.mul_le_mul_right _ ?_) z
      simp
end

end Go.Proofs.Ytbjjfjgomkmdhaa
