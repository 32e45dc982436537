/- The document's numbers: the opposite of a number. -/
import Derived.Test.YtkohpeonnoegpaaDigN
import Derived.Deep.RegionWith
namespace Go.Proofs.Ytkohpeonnoegpaa
open Go.RowKit
set_option linter.unusedVariables false
set_option linter.unusedSimpArgs false

set_option maxHeartbeats 1000000 in
theorem dMinus_any (m1 : Bool) (A : Option Addr) (n1 c1 : Nat) (u : Int) (w : World) (ha : Num w m1 A n1 c1 u) (hn : n1 ≤ 100) :
    Calls Try.prog 54 #[.agg #[.bool m1, .slice A n1 c1]] w (NAns (-u) w) := by
  obtain ⟨a, h1, h2, h3, h4, h5, h6, h7, h8, h9⟩ := ha.facts
  have hv : sval (!m1) a = -u := by
    cases m1 with
    | true => have := h6 rfl; simp [sval]; omega
    | false => have := h7 rfl; simp [sval]; omega
  have T1 := Lib.hid (fun (w' : World) (hs : Stp [] w w') => dtrim_num (!m1) A n1 c1 a (-u) w' (h1.stp hs) (by omega) h2 h3 hv)
  clear ha h1 h2 h3 h4 h5 h6 h7 h8 h9 hv
  obtain ⟨q1, q2, st⟩ := big_two w (.bool !m1) (.slice A n1 c1) (.bool false) (.slice none 0 0)
  have Q := Lib.hid q2
  have S := Lib.hid st
  clear q1 q2 st
  go_enter Try.func54, Try.ntmps54
  go_wp2_with fail
  refine (T1.out _ S.out).mono ?_
  rintro e w2 ⟨mi, A2, n2, c2, rfl, d2, s2⟩
  have qb := Q.out.stp s2
  obtain ⟨z0, z1, t0, t1⟩ := big_cells qb
  have sf := set_big w2 (w.heap.size + 1) (.bool mi) (.slice A2 n2 c2)
  have d3 := Lib.hid (d2.far qb sf)
  have z3 := Lib.hid ((S.out.trans s2).far sf (.inr (by omega)))
  obtain ⟨r0, r1, _, _⟩ := big_cells (big_set qb (.bool mi) (.slice A2 n2 c2))
  clear qb sf d2 s2 T1 Q S
  go_wp2_with fail
  refine bodyPost_ret (v := .agg #[.bool mi, .slice A2 n2 c2]) ?_ rfl ⟨mi, A2, n2, c2, rfl, d3.out, z3.out⟩
  simp [results, Try.results54, go_sem, r0, r1]

end Go.Proofs.Ytkohpeonnoegpaa
