/-
  No cell of these rows narrows 'for every input' (looked for: loops, veiled, ifaces, maps, wideKeys, modest, calm, conditions, laid).
  DERIVED. THE GIVEN ROWS OF THIS SEAT. 5 by the template 'for every input the law returns true; each argument reads behind the call as it read before'; 0 by the template 'total and deterministic' (their statements: YtejcckjakhllpaaTotals.lean).
  GIVEN WITH THE SEED: the statements are not yours to turn. If you find one false, say at which input.
  Laid BY PROGRAM, IN A SANDBOX (cutbox-rows.mjs): the forced cells as the released guide's own fill.sh prints them over the translation bbce04c5cc70faab… (all of the seat's roots in one cut). By AI agents, Wed Nov 11 2026. No macro, syntax, notation, axiom, sorry.
-/
import Derived.Test.YtejcckjakhllpaaChecked
import GoSem.Claim
import GoSem.ClaimJoined
import GoSem.ClaimMapViews
import Derived.JoinedTies
import Derived.KernelRfl
namespace Go.Proofs.Ytejcckjakhllpaa
/- THE CELL 'sum', in the pinned program and in every row, IS THE sha256 OF THE DUMP (.gsa) THAT YtejcckjakhllpaaProg.lean LOADS. Nothing in Lean hashes anything: it is a label: what it is worth is what the hold of that sum in a sandbox is worth. -/
noncomputable def Try.pinned : Pinned := { name := "ytejcckjakhllpaa", sum := "bbce04c5cc70faabeeefa73bc1a27157d79505bdf2513890cf95c94835936ff8", checked := Try.checked }
namespace Rows
def none {H : Type} : Left H := { results := [], args := [] }

/-- 'ephemerislaw12.WallKnown': WHATEVER THE INPUT: true; the input reads as it did. -/
def wallKnownSpec : ChangeSpec := { name := "wallKnown", fn := fun _ => fun
  | [] => { results := [.lit (.bool true)], args := [] }
  | _ => none }
def wallKnownRow : OpenClaim := { program := "ytejcckjakhllpaa", sum := "bbce04c5cc70faabeeefa73bc1a27157d79505bdf2513890cf95c94835936ff8", func := "ephemeris/ephemerislaw12.WallKnown", spec := "wallKnown", unfollowed := true, recurses := true, named := ["math/bits.divideError", "math/bits.overflowError"], apart := false }
def WallKnownSaid : Prop := wallKnownRow.holds Try.pinned (OpenSpec.ofChange wallKnownSpec)

/-- ITS FALSE NEIGHBOUR: 'it returns false'. Refute it at one input. -/
def wallKnownWrong : ChangeSpec := { name := "wallKnown", fn := fun _ => fun
  | [] => { results := [.lit (.bool false)], args := [] }
  | _ => none }
def WallKnownWrongFalsely : Prop := wallKnownRow.holds Try.pinned (OpenSpec.ofChange wallKnownWrong)

/-- 'ephemerislaw12.WallRates': WHATEVER THE INPUT: true; the input reads as it did. -/
def wallRatesSpec : ChangeSpec := { name := "wallRates", fn := fun _ => fun
  | [d1, d2, d3] => { results := [.lit (.bool true)], args := [d1, d2, d3] }
  | _ => none }
def wallRatesRow : OpenClaim := { program := "ytejcckjakhllpaa", sum := "bbce04c5cc70faabeeefa73bc1a27157d79505bdf2513890cf95c94835936ff8", func := "ephemeris/ephemerislaw12.WallRates", spec := "wallRates", unfollowed := true, recurses := true, named := ["math/bits.divideError", "math/bits.overflowError"], apart := false }
def WallRatesSaid : Prop := wallRatesRow.holds Try.pinned (OpenSpec.ofChange wallRatesSpec)

/-- ITS FALSE NEIGHBOUR: 'it returns false'. Refute it at one input. -/
def wallRatesWrong : ChangeSpec := { name := "wallRates", fn := fun _ => fun
  | [d1, d2, d3] => { results := [.lit (.bool false)], args := [d1, d2, d3] }
  | _ => none }
def WallRatesWrongFalsely : Prop := wallRatesRow.holds Try.pinned (OpenSpec.ofChange wallRatesWrong)

/-- 'ephemerislaw12.WallSlews': WHATEVER THE INPUT: true; the input reads as it did. -/
def wallSlewsSpec : ChangeSpec := { name := "wallSlews", fn := fun _ => fun
  | [d1, d2, d3] => { results := [.lit (.bool true)], args := [d1, d2, d3] }
  | _ => none }
def wallSlewsRow : OpenClaim := { program := "ytejcckjakhllpaa", sum := "bbce04c5cc70faabeeefa73bc1a27157d79505bdf2513890cf95c94835936ff8", func := "ephemeris/ephemerislaw12.WallSlews", spec := "wallSlews", unfollowed := true, recurses := true, named := ["math/bits.divideError", "math/bits.overflowError"], apart := false }
def WallSlewsSaid : Prop := wallSlewsRow.holds Try.pinned (OpenSpec.ofChange wallSlewsSpec)

/-- ITS FALSE NEIGHBOUR: 'it returns false'. Refute it at one input. -/
def wallSlewsWrong : ChangeSpec := { name := "wallSlews", fn := fun _ => fun
  | [d1, d2, d3] => { results := [.lit (.bool false)], args := [d1, d2, d3] }
  | _ => none }
def WallSlewsWrongFalsely : Prop := wallSlewsRow.holds Try.pinned (OpenSpec.ofChange wallSlewsWrong)

/-- 'ephemerislaw12.WallNever': WHATEVER THE INPUT: true; the input reads as it did. -/
def wallNeverSpec : ChangeSpec := { name := "wallNever", fn := fun _ => fun
  | [d1, d2, d3, d4, d5] => { results := [.lit (.bool true)], args := [d1, d2, d3, d4, d5] }
  | _ => none }
def wallNeverRow : OpenClaim := { program := "ytejcckjakhllpaa", sum := "bbce04c5cc70faabeeefa73bc1a27157d79505bdf2513890cf95c94835936ff8", func := "ephemeris/ephemerislaw12.WallNever", spec := "wallNever", unfollowed := true, recurses := true, named := ["math/bits.divideError", "math/bits.overflowError"], apart := false }
def WallNeverSaid : Prop := wallNeverRow.holds Try.pinned (OpenSpec.ofChange wallNeverSpec)

/-- ITS FALSE NEIGHBOUR: 'it returns false'. Refute it at one input. -/
def wallNeverWrong : ChangeSpec := { name := "wallNever", fn := fun _ => fun
  | [d1, d2, d3, d4, d5] => { results := [.lit (.bool false)], args := [d1, d2, d3, d4, d5] }
  | _ => none }
def WallNeverWrongFalsely : Prop := wallNeverRow.holds Try.pinned (OpenSpec.ofChange wallNeverWrong)

/-- 'ephemerislaw12.WallGoes': WHATEVER THE INPUT: true; the input reads as it did. -/
def wallGoesSpec : ChangeSpec := { name := "wallGoes", fn := fun _ => fun
  | [d1, d2, d3] => { results := [.lit (.bool true)], args := [d1, d2, d3] }
  | _ => none }
def wallGoesRow : OpenClaim := { program := "ytejcckjakhllpaa", sum := "bbce04c5cc70faabeeefa73bc1a27157d79505bdf2513890cf95c94835936ff8", func := "ephemeris/ephemerislaw12.WallGoes", spec := "wallGoes", unfollowed := true, recurses := true, named := ["math/bits.divideError", "math/bits.overflowError"], apart := false }
def WallGoesSaid : Prop := wallGoesRow.holds Try.pinned (OpenSpec.ofChange wallGoesSpec)

/-- ITS FALSE NEIGHBOUR: 'it returns false'. Refute it at one input. -/
def wallGoesWrong : ChangeSpec := { name := "wallGoes", fn := fun _ => fun
  | [d1, d2, d3] => { results := [.lit (.bool false)], args := [d1, d2, d3] }
  | _ => none }
def WallGoesWrongFalsely : Prop := wallGoesRow.holds Try.pinned (OpenSpec.ofChange wallGoesWrong)

/- THE SECOND FORM. 'bulk': how many values and letters a reading holds, each counted each time it is reached (what is shared counts as often as it is met; a slice's spare places count too). A statement '..UptoSaid' is the law's where the arguments, and the package variables that the reading takes, are together of bulk at most 1048576: NARROWER than '..Said'. Prove '..Said' where nothing that the law and all that it calls make is longer than what came in: it says more and counts as full. Else prove '..UptoSaid'. A law counts once. -/
mutual
def uptoBulk {H : Type} : DataW H → Nat
  | .lit (.string bytes) => bytes.length + 1
  | .lit _ => 1
  | .nil => 1
  | .ptr d => uptoBulk d + 1
  | .slice elems spare => uptoBulkAll elems + uptoBulkAll spare + 1
  | .agg parts => uptoBulkAll parts + 1
  | .iface _ d => uptoBulk d + 1
  | .map entries => uptoBulkEntries entries + 1
  | .held _ => 1
def uptoBulkAll {H : Type} : List (DataW H) → Nat
  | [] => 0
  | d :: r => uptoBulk d + uptoBulkAll r
def uptoBulkEntries {H : Type} : List (Lit × DataW H) → Nat
  | [] => 0
  | x :: r => uptoBulkEntry x + uptoBulkEntries r
def uptoBulkEntry {H : Type} : Lit × DataW H → Nat
  | (.string bytes, d) => bytes.length + uptoBulk d + 1
  | (_, d) => uptoBulk d + 1
 end
def uptoSmall : (H : Type) → List (DataW H) → Bool := fun _ ds => decide (uptoBulkAll ds ≤ 1048576)
def OpenSpec.upto (s : _root_.Go.ChangeSpec) : _root_.Go.OpenSpec := { _root_.Go.OpenSpec.ofChange s with cond := some uptoSmall }

/-- 'ephemerislaw12.WallKnown', WHERE WHAT IT READS IS OF BULK AT MOST 1048576: true; the input reads as it did. -/
def wallKnownUptoRow : OpenClaim := { program := "ytejcckjakhllpaa", sum := "bbce04c5cc70faabeeefa73bc1a27157d79505bdf2513890cf95c94835936ff8", func := "ephemeris/ephemerislaw12.WallKnown", spec := "wallKnown", unfollowed := true, recurses := true, named := ["math/bits.divideError", "math/bits.overflowError"], apart := false, narrowed := true }
def WallKnownUptoSaid : Prop := wallKnownUptoRow.holds Try.pinned (OpenSpec.upto wallKnownSpec)

/-- 'ephemerislaw12.WallRates', WHERE WHAT IT READS IS OF BULK AT MOST 1048576: true; the input reads as it did. -/
def wallRatesUptoRow : OpenClaim := { program := "ytejcckjakhllpaa", sum := "bbce04c5cc70faabeeefa73bc1a27157d79505bdf2513890cf95c94835936ff8", func := "ephemeris/ephemerislaw12.WallRates", spec := "wallRates", unfollowed := true, recurses := true, named := ["math/bits.divideError", "math/bits.overflowError"], apart := false, narrowed := true }
def WallRatesUptoSaid : Prop := wallRatesUptoRow.holds Try.pinned (OpenSpec.upto wallRatesSpec)

/-- 'ephemerislaw12.WallSlews', WHERE WHAT IT READS IS OF BULK AT MOST 1048576: true; the input reads as it did. -/
def wallSlewsUptoRow : OpenClaim := { program := "ytejcckjakhllpaa", sum := "bbce04c5cc70faabeeefa73bc1a27157d79505bdf2513890cf95c94835936ff8", func := "ephemeris/ephemerislaw12.WallSlews", spec := "wallSlews", unfollowed := true, recurses := true, named := ["math/bits.divideError", "math/bits.overflowError"], apart := false, narrowed := true }
def WallSlewsUptoSaid : Prop := wallSlewsUptoRow.holds Try.pinned (OpenSpec.upto wallSlewsSpec)

/-- 'ephemerislaw12.WallNever', WHERE WHAT IT READS IS OF BULK AT MOST 1048576: true; the input reads as it did. -/
def wallNeverUptoRow : OpenClaim := { program := "ytejcckjakhllpaa", sum := "bbce04c5cc70faabeeefa73bc1a27157d79505bdf2513890cf95c94835936ff8", func := "ephemeris/ephemerislaw12.WallNever", spec := "wallNever", unfollowed := true, recurses := true, named := ["math/bits.divideError", "math/bits.overflowError"], apart := false, narrowed := true }
def WallNeverUptoSaid : Prop := wallNeverUptoRow.holds Try.pinned (OpenSpec.upto wallNeverSpec)

/-- 'ephemerislaw12.WallGoes', WHERE WHAT IT READS IS OF BULK AT MOST 1048576: true; the input reads as it did. -/
def wallGoesUptoRow : OpenClaim := { program := "ytejcckjakhllpaa", sum := "bbce04c5cc70faabeeefa73bc1a27157d79505bdf2513890cf95c94835936ff8", func := "ephemeris/ephemerislaw12.WallGoes", spec := "wallGoes", unfollowed := true, recurses := true, named := ["math/bits.divideError", "math/bits.overflowError"], apart := false, narrowed := true }
def WallGoesUptoSaid : Prop := wallGoesUptoRow.holds Try.pinned (OpenSpec.upto wallGoesSpec)

end Rows
end Go.Proofs.Ytejcckjakhllpaa
