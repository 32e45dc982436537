/-
  No cell of these rows narrows 'for every input' (looked for: loops, veiled, ifaces, maps, wideKeys, modest, calm, conditions, laid).
  DERIVED. THE GIVEN ROWS OF THIS SEAT. 5 by the template 'for every input the law returns true; each argument reads behind the call as it read before'; 0 by the template 'total and deterministic' (their statements: YteoglmbmbejlaaaTotals.lean).
  GIVEN WITH THE SEED: the statements are not yours to turn. If you find one false, say at which input.
  Laid BY PROGRAM, IN A SANDBOX (cutbox-rows.mjs): the forced cells as the released guide's own fill.sh prints them over the translation 5ae4e1e8fc7a9ff0… (all of the seat's roots in one cut). By AI agents, Wed Nov 11 2026. No macro, syntax, notation, axiom, sorry.
-/
import Derived.Test.YteoglmbmbejlaaaChecked
import GoSem.Claim
import GoSem.ClaimJoined
import GoSem.ClaimMapViews
import Derived.JoinedTies
import Derived.KernelRfl
namespace Go.Proofs.Yteoglmbmbejlaaa
/- THE CELL 'sum', in the pinned program and in every row, IS THE sha256 OF THE DUMP (.gsa) THAT YteoglmbmbejlaaaProg.lean LOADS. Nothing in Lean hashes anything: it is a label: what it is worth is what the hold of that sum in a sandbox is worth. -/
noncomputable def Try.pinned : Pinned := { name := "yteoglmbmbejlaaa", sum := "5ae4e1e8fc7a9ff06596c122d01dc5505fc00890af7897c82c657dc66bde020b", checked := Try.checked }
namespace Rows
def none {H : Type} : Left H := { results := [], args := [] }

/-- 'ephemerislaw27.ClockComes': WHATEVER THE INPUT: true; the input reads as it did. -/
def clockComesSpec : ChangeSpec := { name := "clockComes", fn := fun _ => fun
  | [d1, d2, d3] => { results := [.lit (.bool true)], args := [d1, d2, d3] }
  | _ => none }
def clockComesRow : OpenClaim := { program := "yteoglmbmbejlaaa", sum := "5ae4e1e8fc7a9ff06596c122d01dc5505fc00890af7897c82c657dc66bde020b", func := "ephemeris/ephemerislaw27.ClockComes", spec := "clockComes", apart := false }
def ClockComesSaid : Prop := clockComesRow.holds Try.pinned (OpenSpec.ofChange clockComesSpec)

/-- ITS FALSE NEIGHBOUR: 'it returns false'. Refute it at one input. -/
def clockComesWrong : ChangeSpec := { name := "clockComes", fn := fun _ => fun
  | [d1, d2, d3] => { results := [.lit (.bool false)], args := [d1, d2, d3] }
  | _ => none }
def ClockComesWrongFalsely : Prop := clockComesRow.holds Try.pinned (OpenSpec.ofChange clockComesWrong)

/-- 'ephemerislaw27.ClockSteps': WHATEVER THE INPUT: true; the input reads as it did. -/
def clockStepsSpec : ChangeSpec := { name := "clockSteps", fn := fun _ => fun
  | [d1, d2] => { results := [.lit (.bool true)], args := [d1, d2] }
  | _ => none }
def clockStepsRow : OpenClaim := { program := "yteoglmbmbejlaaa", sum := "5ae4e1e8fc7a9ff06596c122d01dc5505fc00890af7897c82c657dc66bde020b", func := "ephemeris/ephemerislaw27.ClockSteps", spec := "clockSteps", apart := false }
def ClockStepsSaid : Prop := clockStepsRow.holds Try.pinned (OpenSpec.ofChange clockStepsSpec)

/-- ITS FALSE NEIGHBOUR: 'it returns false'. Refute it at one input. -/
def clockStepsWrong : ChangeSpec := { name := "clockSteps", fn := fun _ => fun
  | [d1, d2] => { results := [.lit (.bool false)], args := [d1, d2] }
  | _ => none }
def ClockStepsWrongFalsely : Prop := clockStepsRow.holds Try.pinned (OpenSpec.ofChange clockStepsWrong)

/-- 'ephemerislaw27.ClockLater': WHATEVER THE INPUT: true; the input reads as it did. -/
def clockLaterSpec : ChangeSpec := { name := "clockLater", fn := fun _ => fun
  | [d1, d2, d3] => { results := [.lit (.bool true)], args := [d1, d2, d3] }
  | _ => none }
def clockLaterRow : OpenClaim := { program := "yteoglmbmbejlaaa", sum := "5ae4e1e8fc7a9ff06596c122d01dc5505fc00890af7897c82c657dc66bde020b", func := "ephemeris/ephemerislaw27.ClockLater", spec := "clockLater", apart := false }
def ClockLaterSaid : Prop := clockLaterRow.holds Try.pinned (OpenSpec.ofChange clockLaterSpec)

/-- ITS FALSE NEIGHBOUR: 'it returns false'. Refute it at one input. -/
def clockLaterWrong : ChangeSpec := { name := "clockLater", fn := fun _ => fun
  | [d1, d2, d3] => { results := [.lit (.bool false)], args := [d1, d2, d3] }
  | _ => none }
def ClockLaterWrongFalsely : Prop := clockLaterRow.holds Try.pinned (OpenSpec.ofChange clockLaterWrong)

/-- 'ephemerislaw27.ClockSigns': WHATEVER THE INPUT: true; the input reads as it did. -/
def clockSignsSpec : ChangeSpec := { name := "clockSigns", fn := fun _ => fun
  | [d1, d2] => { results := [.lit (.bool true)], args := [d1, d2] }
  | _ => none }
def clockSignsRow : OpenClaim := { program := "yteoglmbmbejlaaa", sum := "5ae4e1e8fc7a9ff06596c122d01dc5505fc00890af7897c82c657dc66bde020b", func := "ephemeris/ephemerislaw27.ClockSigns", spec := "clockSigns", apart := false }
def ClockSignsSaid : Prop := clockSignsRow.holds Try.pinned (OpenSpec.ofChange clockSignsSpec)

/-- ITS FALSE NEIGHBOUR: 'it returns false'. Refute it at one input. -/
def clockSignsWrong : ChangeSpec := { name := "clockSigns", fn := fun _ => fun
  | [d1, d2] => { results := [.lit (.bool false)], args := [d1, d2] }
  | _ => none }
def ClockSignsWrongFalsely : Prop := clockSignsRow.holds Try.pinned (OpenSpec.ofChange clockSignsWrong)

/-- 'ephemerislaw27.ClockKnown': WHATEVER THE INPUT: true; the input reads as it did. -/
def clockKnownSpec : ChangeSpec := { name := "clockKnown", fn := fun _ => fun
  | [] => { results := [.lit (.bool true)], args := [] }
  | _ => none }
def clockKnownRow : OpenClaim := { program := "yteoglmbmbejlaaa", sum := "5ae4e1e8fc7a9ff06596c122d01dc5505fc00890af7897c82c657dc66bde020b", func := "ephemeris/ephemerislaw27.ClockKnown", spec := "clockKnown", apart := false }
def ClockKnownSaid : Prop := clockKnownRow.holds Try.pinned (OpenSpec.ofChange clockKnownSpec)

/-- ITS FALSE NEIGHBOUR: 'it returns false'. Refute it at one input. -/
def clockKnownWrong : ChangeSpec := { name := "clockKnown", fn := fun _ => fun
  | [] => { results := [.lit (.bool false)], args := [] }
  | _ => none }
def ClockKnownWrongFalsely : Prop := clockKnownRow.holds Try.pinned (OpenSpec.ofChange clockKnownWrong)

/- THE SECOND FORM. 'bulk': how many values and letters a reading holds, each counted each time it is reached (what is shared counts as often as it is met; a slice's spare places count too). A statement '..UptoSaid' is the law's where the arguments, and the package variables that the reading takes, are together of bulk at most 1048576: NARROWER than '..Said'. Prove '..Said' where nothing that the law and all that it calls make is longer than what came in: it says more and counts as full. Else prove '..UptoSaid'. A law counts once. -/
mutual
def uptoBulk {H : Type} : DataW H → Nat
  | .lit (.string bytes) => bytes.length + 1
  | .lit _ => 1
  | .nil => 1
  | .ptr d => uptoBulk d + 1
  | .slice elems spare => uptoBulkAll elems + uptoBulkAll spare + 1
  | .agg parts => uptoBulkAll parts + 1
  | .iface _ d => uptoBulk d + 1
  | .map entries => uptoBulkEntries entries + 1
  | .held _ => 1
def uptoBulkAll {H : Type} : List (DataW H) → Nat
  | [] => 0
  | d :: r => uptoBulk d + uptoBulkAll r
def uptoBulkEntries {H : Type} : List (Lit × DataW H) → Nat
  | [] => 0
  | x :: r => uptoBulkEntry x + uptoBulkEntries r
def uptoBulkEntry {H : Type} : Lit × DataW H → Nat
  | (.string bytes, d) => bytes.length + uptoBulk d + 1
  | (_, d) => uptoBulk d + 1
 end
def uptoSmall : (H : Type) → List (DataW H) → Bool := fun _ ds => decide (uptoBulkAll ds ≤ 1048576)
def OpenSpec.upto (s : _root_.Go.ChangeSpec) : _root_.Go.OpenSpec := { _root_.Go.OpenSpec.ofChange s with cond := some uptoSmall }

/-- 'ephemerislaw27.ClockComes', WHERE WHAT IT READS IS OF BULK AT MOST 1048576: true; the input reads as it did. -/
def clockComesUptoRow : OpenClaim := { program := "yteoglmbmbejlaaa", sum := "5ae4e1e8fc7a9ff06596c122d01dc5505fc00890af7897c82c657dc66bde020b", func := "ephemeris/ephemerislaw27.ClockComes", spec := "clockComes", apart := false, narrowed := true }
def ClockComesUptoSaid : Prop := clockComesUptoRow.holds Try.pinned (OpenSpec.upto clockComesSpec)

/-- 'ephemerislaw27.ClockSteps', WHERE WHAT IT READS IS OF BULK AT MOST 1048576: true; the input reads as it did. -/
def clockStepsUptoRow : OpenClaim := { program := "yteoglmbmbejlaaa", sum := "5ae4e1e8fc7a9ff06596c122d01dc5505fc00890af7897c82c657dc66bde020b", func := "ephemeris/ephemerislaw27.ClockSteps", spec := "clockSteps", apart := false, narrowed := true }
def ClockStepsUptoSaid : Prop := clockStepsUptoRow.holds Try.pinned (OpenSpec.upto clockStepsSpec)

/-- 'ephemerislaw27.ClockLater', WHERE WHAT IT READS IS OF BULK AT MOST 1048576: true; the input reads as it did. -/
def clockLaterUptoRow : OpenClaim := { program := "yteoglmbmbejlaaa", sum := "5ae4e1e8fc7a9ff06596c122d01dc5505fc00890af7897c82c657dc66bde020b", func := "ephemeris/ephemerislaw27.ClockLater", spec := "clockLater", apart := false, narrowed := true }
def ClockLaterUptoSaid : Prop := clockLaterUptoRow.holds Try.pinned (OpenSpec.upto clockLaterSpec)

/-- 'ephemerislaw27.ClockSigns', WHERE WHAT IT READS IS OF BULK AT MOST 1048576: true; the input reads as it did. -/
def clockSignsUptoRow : OpenClaim := { program := "yteoglmbmbejlaaa", sum := "5ae4e1e8fc7a9ff06596c122d01dc5505fc00890af7897c82c657dc66bde020b", func := "ephemeris/ephemerislaw27.ClockSigns", spec := "clockSigns", apart := false, narrowed := true }
def ClockSignsUptoSaid : Prop := clockSignsUptoRow.holds Try.pinned (OpenSpec.upto clockSignsSpec)

/-- 'ephemerislaw27.ClockKnown', WHERE WHAT IT READS IS OF BULK AT MOST 1048576: true; the input reads as it did. -/
def clockKnownUptoRow : OpenClaim := { program := "yteoglmbmbejlaaa", sum := "5ae4e1e8fc7a9ff06596c122d01dc5505fc00890af7897c82c657dc66bde020b", func := "ephemeris/ephemerislaw27.ClockKnown", spec := "clockKnown", apart := false, narrowed := true }
def ClockKnownUptoSaid : Prop := clockKnownUptoRow.holds Try.pinned (OpenSpec.upto clockKnownSpec)

end Rows
end Go.Proofs.Yteoglmbmbejlaaa
