/- Small words on worlds, for this seat's walks: what a call may change in memory. -/
import Derived.Test.YtbjjfjgomkmdhaaProg
import Derived.Below
import Derived.Deep.Draws
import Derived.OwnWalk
import Derived.Tactics
import Derived.WalkKit
import Derived.KernelRfl
import Derived.RowKit3
import Derived.Deep.QuietTactic
import Derived.BigQuiet
import Derived.WideLaws
import Derived.WalkSpells
import Derived.WalkLawsBesides
import Derived.RowKit
import Derived.Lib.Hide
import Derived.WalkMore
namespace Go.Proofs.Ytbjjfjgomkmdhaa
open Go.RowKit
set_option linter.unusedVariables false
set_option linter.unusedSimpArgs false

/-- From w to w' no block has changed but those of G; new ones may be there. -/
structure Stp (G : List Nat) (w w' : World) : Prop where
  os : w'.os = w.os
  tape : w'.tape = w.tape
  output : w'.output = w.output
  size : w.heap.size ≤ w'.heap.size
  block : ∀ k, k < w.heap.size → k ∉ G → w'.heap[k]? = w.heap[k]?

theorem Stp.refl (G : List Nat) (w : World) : Stp G w w := ⟨rfl, rfl, rfl, Nat.le_refl _, fun _ _ _ => rfl⟩
theorem Stp.trans {G : List Nat} {a b c : World} (h : Stp G a b) (k : Stp G b c) : Stp G a c :=
  ⟨k.os.trans h.os, k.tape.trans h.tape, k.output.trans h.output, Nat.le_trans h.size k.size, fun i hi hg => (k.block i (Nat.lt_of_lt_of_le hi h.size) hg).trans (h.block i hi hg)⟩
theorem Stp.mono {G G' : List Nat} {w w' : World} (h : Stp G w w') (hs : ∀ k, k ∈ G → k ∈ G') : Stp G' w w' :=
  ⟨h.os, h.tape, h.output, h.size, fun i hi hg => h.block i hi (fun hk => hg (hs i hk))⟩
theorem Stp.of_nil {G : List Nat} {w w' : World} (h : Stp [] w w') : Stp G w w' := h.mono (by simp)
theorem Stp.drewN {G : List Nat} {a w : World} (h : Stp G a w) (n : Nat) : Stp G a (w.drewN n) := ⟨h.os, h.tape, h.output, h.size, h.block⟩
theorem Stp.drew {G : List Nat} {a w : World} (h : Stp G a w) : Stp G a w.drew := ⟨h.os, h.tape, h.output, h.size, h.block⟩
theorem Stp.of_drewN {G : List Nat} {w w' : World} {n : Nat} (h : Stp G (w.drewN n) w') : Stp G w w' := ⟨h.os, h.tape, h.output, h.size, h.block⟩
theorem Stp.alloc {G : List Nat} {a w : World} (h : Stp G a w) (o : Obj) : Stp G a (w.alloc o) :=
  ⟨h.os, h.tape, h.output, by simpa using Nat.le_succ_of_le h.size, fun k hk hg => (Below.heap_alloc w o k (Nat.lt_of_lt_of_le hk h.size)).trans (h.block k hk hg)⟩
theorem Stp.setCell {G : List Nat} {a w : World} (h : Stp G a w) {p : Addr} (hp : p.block ∈ G ∨ a.heap.size ≤ p.block) (u : Value) : Stp G a (w.setCell p u) :=
  ⟨h.os, h.tape, h.output, by simpa using h.size, fun k hk hg => (Below.heap_setCell w p u k (fun e => by subst e; rcases hp with hp | hp; exact hg hp; omega)).trans (h.block k hk hg)⟩
theorem Stp.below {G : List Nat} {w w' : World} (h : Stp G w w') {B : Nat} (hB : B ≤ w.heap.size) (hG : ∀ k, k ∈ G → B ≤ k) : Below B w w' :=
  ⟨h.os, h.tape, h.output, h.size, fun k hk => h.block k (by omega) (fun hk' => by have := hG k hk'; omega)⟩
theorem Stp.of_below {w w' : World} (h : Below w.heap.size w w') : Stp [] w w' := ⟨h.os, h.tape, h.output, h.size, fun k hk _ => h.block k hk⟩
theorem Stp.at {G : List Nat} {w w' : World} (h : Stp G w w') {g : Nat} {o : Obj} (ho : w.heap[g]? = some o) (hg : g ∉ G) : w'.heap[g]? = some o :=
  (h.block g (by rcases Nat.lt_or_ge g w.heap.size with h1 | h1; exact h1; simp [Array.getElem?_eq_none h1] at ho) hg).trans ho
theorem lt_of_at {w : World} {g : Nat} {o : Obj} (ho : w.heap[g]? = some o) : g < w.heap.size := by
  rcases Nat.lt_or_ge g w.heap.size with h1 | h1
  · exact h1
  · simp [Array.getElem?_eq_none h1] at ho

/-- A step that changes the block g alone, g being new since a, or one of G. -/
theorem Stp.far {G : List Nat} {a w w' : World} {g : Nat} (h : Stp G a w) (k : Stp [g] w w') (hg : g ∈ G ∨ a.heap.size ≤ g) : Stp G a w' :=
  ⟨k.os.trans h.os, k.tape.trans h.tape, k.output.trans h.output, Nat.le_trans h.size k.size, fun i hi hn => (k.block i (Nat.lt_of_lt_of_le hi h.size) (by
    intro hm
    simp at hm
    subst hm
    rcases hg with h1 | h1
    · exact hn h1
    · omega)).trans (h.block i hi hn)⟩

theorem cell_at {w : World} {g : Nat} {xs : Array Value} {T : TypeId} {f : Nat × Nat} (h : w.heap[g]? = some (.cells xs T f)) (j : Nat) : w.cell? ⟨g, j, none⟩ = xs[j]? := by
  simp [World.cell?, h]
theorem free_at {w : World} {g : Nat} {xs : Array Value} {T : TypeId} (h : w.heap[g]? = some (.cells xs T (0, 0))) (j : Nat) : w.frozen? ⟨g, j, none⟩ = false := by
  simp [World.frozen?, h]
theorem set_at {w : World} {g : Nat} {xs : Array Value} {T : TypeId} {f : Nat × Nat} (h : w.heap[g]? = some (.cells xs T f)) (j : Nat) (v : Value) : (w.setCell ⟨g, j, none⟩ v).heap[g]? = some (.cells (xs.setIfInBounds j v) T f) := by
  simp [World.setCell, Array.getElem?_modify, h]
theorem new_at (w : World) (o : Obj) : (w.alloc o).heap[w.heap.size]? = some o := by
  simp [← World.alloc_eq]

theorem ret_int {k : IntKind} {a b : Int} (h : a = b) : Ending.returned (.int k a) = .returned (.int k b) := by rw [h]
theorem ret_bool {a b : Bool} (h : a = b) : Ending.returned (.bool a) = .returned (.bool b) := by rw [h]
theorem ret_int2 {k k' : IntKind} {a b a' b' : Int} (h : a = a') (h' : b = b') : Ending.returned (.tuple #[.int k a, .int k' b]) = .returned (.tuple #[.int k a', .int k' b']) := by rw [h, h']
theorem ret_int_bool {k : IntKind} {a a' : Int} {b b' : Bool} (h : a = a') (h' : b = b') : Ending.returned (.tuple #[.int k a, .bool b]) = .returned (.tuple #[.int k a', .bool b']) := by rw [h, h']
theorem wrap64_id {a : Int} (h0 : -9223372036854775808 ≤ a) (h1 : a ≤ 9223372036854775807) : wrap64 a = a := by unfold wrap64; omega

/-- A call that leaves the world alone, or draws alone, in a region that is walked quietly behind another one. -/
theorem quiet_add {P : Program} {f : FuncId} {args : Array Value} {w : World} {a n : Nat} {v : Value}
    (h : Calls P f args (w.drewN (a + n)) fun e w' => e = .returned v ∧ ∃ m, w' = (w.drewN (a + n)).drewN m) :
    Calls P f args (w.drewN (a + n)) fun e w'' => e = .returned v ∧ ∃ m, w'' = w.drewN (a + m) :=
  h.mono fun _ _ ⟨he, m, hm⟩ => ⟨he, n + m, by rw [hm, World.drewN_drewN, Nat.add_assoc]⟩
theorem quiet_add_same {P : Program} {f : FuncId} {args : Array Value} {w : World} {a n : Nat} {v : Value}
    (h : Calls P f args (w.drewN (a + n)) fun e w' => e = .returned v ∧ w' = w.drewN (a + n)) :
    Calls P f args (w.drewN (a + n)) fun e w'' => e = .returned v ∧ ∃ m, w'' = w.drewN (a + m) :=
  h.mono fun _ _ ⟨he, hm⟩ => ⟨he, n, hm⟩

/-- What stands behind a scope whose jumps go to its own labels, at most so many. -/
def jumpTo (P : Program) (c : Code) (Q : Exit → Act → World → Prop) : Nat → Exit → Act → World → Prop
  | 0, .goto _, _, _ => False
  | n + 1, .goto l, a, w => ∃ rest, findLabel c l = some rest ∧ rest.wp P (jumpTo P c Q n) a w
  | _, e, a, w => Q e a w
theorem wp_scope_jumpTo {P : Program} {c : Code} {Q : Exit → Act → World → Prop} {a : Act} {w : World} (n : Nat) (h : c.wp P (jumpTo P c Q n) a w) : (Code.scope c).wp P Q a w := by
  intro b k cs
  have key : ∀ n (d : Code) a w, d.wp P (jumpTo P c Q n) a w → ∃ e a' w', Q e a' w' ∧ Arrives P (lone (b.at a (.code d :: .inScope c :: k)) cs w) b k cs e a' w' := by
    intro n
    induction n with
    | zero =>
      intro d a w hd
      obtain ⟨e, a₁, w₁, hq, harr⟩ := hd b (.inScope c :: k) cs
      cases e with
      | normal => exact ⟨.normal, a₁, w₁, hq, Steps.trans harr (.one step_inScope)⟩
      | exit id => exact ⟨.exit id, a₁, w₁, hq, fun k' hk => harr k' (by simp [exitTo, hk])⟩
      | goto l' => exact hq.elim
      | ret => exact ⟨_, a₁, w₁, hq, harr⟩
      | panic ch => exact ⟨_, a₁, w₁, hq, harr⟩
      | outgrown => exact ⟨_, a₁, w₁, hq, harr⟩
    | succ n ih =>
      intro d a w hd
      obtain ⟨e, a₁, w₁, hq, harr⟩ := hd b (.inScope c :: k) cs
      cases e with
      | normal => exact ⟨.normal, a₁, w₁, hq, Steps.trans harr (.one step_inScope)⟩
      | exit id => exact ⟨.exit id, a₁, w₁, hq, fun k' hk => harr k' (by simp [exitTo, hk])⟩
      | goto l' =>
        obtain ⟨rest, hf, hr⟩ := hq
        obtain ⟨e₂, a₂, w₂, hq₂, harr₂⟩ := ih rest a₁ w₁ hr
        exact ⟨e₂, a₂, w₂, hq₂, .of_steps (harr _ (by simp [gotoIn, hf])) harr₂⟩
      | ret => exact ⟨_, a₁, w₁, hq, harr⟩
      | panic ch => exact ⟨_, a₁, w₁, hq, harr⟩
      | outgrown => exact ⟨_, a₁, w₁, hq, harr⟩
  obtain ⟨e, a', w', hq, harr⟩ := key n c a w h
  exact ⟨e, a', w', hq, .of_steps (.one step_scope) harr⟩

end Go.Proofs.Ytbjjfjgomkmdhaa
