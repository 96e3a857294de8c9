/-
  No cell of these rows narrows 'for every input' (looked for: loops, veiled, ifaces, maps, wideKeys, modest, calm, conditions, laid).
  DERIVED. THE GIVEN ROWS OF THIS SEAT. 7 by the template 'for every input the law returns true; each argument reads behind the call as it read before'; 0 by the template 'total and deterministic' (their statements: YtbcbkokpbobngaaTotals.lean).
  GIVEN WITH THE SEED: the statements are not yours to turn. If you find one false, say at which input.
  Laid BY PROGRAM, IN A SANDBOX (cutbox-rows.mjs): the forced cells as the released guide's own fill.sh prints them over the translation 47510d874641629b… (all of the seat's roots in one cut). By AI agents, Wed Nov 11 2026. No macro, syntax, notation, axiom, sorry.
-/
import Derived.Test.YtbcbkokpbobngaaChecked
import GoSem.Claim
import GoSem.ClaimJoined
import GoSem.ClaimMapViews
import Derived.JoinedTies
import Derived.KernelRfl
namespace Go.Proofs.Ytbcbkokpbobngaa
/- THE CELL 'sum', in the pinned program and in every row, IS THE sha256 OF THE DUMP (.gsa) THAT YtbcbkokpbobngaaProg.lean LOADS. Nothing in Lean hashes anything: it is a label: what it is worth is what the hold of that sum in a sandbox is worth. -/
noncomputable def Try.pinned : Pinned := { name := "ytbcbkokpbobngaa", sum := "47510d874641629b2f4158cec3ac61d35f6e9e53776f3bd8ba2be61835751c86", checked := Try.checked }
namespace Rows
def none {H : Type} : Left H := { results := [], args := [] }

/-- 'omnibuslaw10.ClockTells': WHATEVER THE INPUT: true; the input reads as it did. -/
def clockTellsSpec : ChangeSpec := { name := "clockTells", fn := fun _ => fun
  | [d1, d2, d3, d4] => { results := [.lit (.bool true)], args := [d1, d2, d3, d4] }
  | _ => none }
def clockTellsRow : OpenClaim := { program := "ytbcbkokpbobngaa", sum := "47510d874641629b2f4158cec3ac61d35f6e9e53776f3bd8ba2be61835751c86", func := "omnibus/omnibuslaw10.ClockTells", spec := "clockTells", apart := false }
def ClockTellsSaid : Prop := clockTellsRow.holds Try.pinned (OpenSpec.ofChange clockTellsSpec)

/-- ITS FALSE NEIGHBOUR: 'it returns false'. Refute it at one input. -/
def clockTellsWrong : ChangeSpec := { name := "clockTells", fn := fun _ => fun
  | [d1, d2, d3, d4] => { results := [.lit (.bool false)], args := [d1, d2, d3, d4] }
  | _ => none }
def ClockTellsWrongFalsely : Prop := clockTellsRow.holds Try.pinned (OpenSpec.ofChange clockTellsWrong)

/-- 'omnibuslaw10.ClockMiddles': WHATEVER THE INPUT: true; the input reads as it did. -/
def clockMiddlesSpec : ChangeSpec := { name := "clockMiddles", fn := fun _ => fun
  | [d1, d2, d3, d4] => { results := [.lit (.bool true)], args := [d1, d2, d3, d4] }
  | _ => none }
def clockMiddlesRow : OpenClaim := { program := "ytbcbkokpbobngaa", sum := "47510d874641629b2f4158cec3ac61d35f6e9e53776f3bd8ba2be61835751c86", func := "omnibus/omnibuslaw10.ClockMiddles", spec := "clockMiddles", apart := false }
def ClockMiddlesSaid : Prop := clockMiddlesRow.holds Try.pinned (OpenSpec.ofChange clockMiddlesSpec)

/-- ITS FALSE NEIGHBOUR: 'it returns false'. Refute it at one input. -/
def clockMiddlesWrong : ChangeSpec := { name := "clockMiddles", fn := fun _ => fun
  | [d1, d2, d3, d4] => { results := [.lit (.bool false)], args := [d1, d2, d3, d4] }
  | _ => none }
def ClockMiddlesWrongFalsely : Prop := clockMiddlesRow.holds Try.pinned (OpenSpec.ofChange clockMiddlesWrong)

/-- 'omnibuslaw10.ClockPairs': WHATEVER THE INPUT: true; the input reads as it did. -/
def clockPairsSpec : ChangeSpec := { name := "clockPairs", fn := fun _ => fun
  | [d1, d2, d3, d4] => { results := [.lit (.bool true)], args := [d1, d2, d3, d4] }
  | _ => none }
def clockPairsRow : OpenClaim := { program := "ytbcbkokpbobngaa", sum := "47510d874641629b2f4158cec3ac61d35f6e9e53776f3bd8ba2be61835751c86", func := "omnibus/omnibuslaw10.ClockPairs", spec := "clockPairs", apart := false }
def ClockPairsSaid : Prop := clockPairsRow.holds Try.pinned (OpenSpec.ofChange clockPairsSpec)

/-- ITS FALSE NEIGHBOUR: 'it returns false'. Refute it at one input. -/
def clockPairsWrong : ChangeSpec := { name := "clockPairs", fn := fun _ => fun
  | [d1, d2, d3, d4] => { results := [.lit (.bool false)], args := [d1, d2, d3, d4] }
  | _ => none }
def ClockPairsWrongFalsely : Prop := clockPairsRow.holds Try.pinned (OpenSpec.ofChange clockPairsWrong)

/-- 'omnibuslaw10.ClockTicks': WHATEVER THE INPUT: true; the input reads as it did. -/
def clockTicksSpec : ChangeSpec := { name := "clockTicks", fn := fun _ => fun
  | [d1, d2, d3, d4] => { results := [.lit (.bool true)], args := [d1, d2, d3, d4] }
  | _ => none }
def clockTicksRow : OpenClaim := { program := "ytbcbkokpbobngaa", sum := "47510d874641629b2f4158cec3ac61d35f6e9e53776f3bd8ba2be61835751c86", func := "omnibus/omnibuslaw10.ClockTicks", spec := "clockTicks", apart := false }
def ClockTicksSaid : Prop := clockTicksRow.holds Try.pinned (OpenSpec.ofChange clockTicksSpec)

/-- ITS FALSE NEIGHBOUR: 'it returns false'. Refute it at one input. -/
def clockTicksWrong : ChangeSpec := { name := "clockTicks", fn := fun _ => fun
  | [d1, d2, d3, d4] => { results := [.lit (.bool false)], args := [d1, d2, d3, d4] }
  | _ => none }
def ClockTicksWrongFalsely : Prop := clockTicksRow.holds Try.pinned (OpenSpec.ofChange clockTicksWrong)

/-- 'omnibuslaw10.ClockSteps': WHATEVER THE INPUT: true; the input reads as it did. -/
def clockStepsSpec : ChangeSpec := { name := "clockSteps", fn := fun _ => fun
  | [d1, d2, d3, d4] => { results := [.lit (.bool true)], args := [d1, d2, d3, d4] }
  | _ => none }
def clockStepsRow : OpenClaim := { program := "ytbcbkokpbobngaa", sum := "47510d874641629b2f4158cec3ac61d35f6e9e53776f3bd8ba2be61835751c86", func := "omnibus/omnibuslaw10.ClockSteps", spec := "clockSteps", apart := false }
def ClockStepsSaid : Prop := clockStepsRow.holds Try.pinned (OpenSpec.ofChange clockStepsSpec)

/-- ITS FALSE NEIGHBOUR: 'it returns false'. Refute it at one input. -/
def clockStepsWrong : ChangeSpec := { name := "clockSteps", fn := fun _ => fun
  | [d1, d2, d3, d4] => { results := [.lit (.bool false)], args := [d1, d2, d3, d4] }
  | _ => none }
def ClockStepsWrongFalsely : Prop := clockStepsRow.holds Try.pinned (OpenSpec.ofChange clockStepsWrong)

/-- 'omnibuslaw10.ClockShifts': WHATEVER THE INPUT: true; the input reads as it did. -/
def clockShiftsSpec : ChangeSpec := { name := "clockShifts", fn := fun _ => fun
  | [d1, d2, d3, d4] => { results := [.lit (.bool true)], args := [d1, d2, d3, d4] }
  | _ => none }
def clockShiftsRow : OpenClaim := { program := "ytbcbkokpbobngaa", sum := "47510d874641629b2f4158cec3ac61d35f6e9e53776f3bd8ba2be61835751c86", func := "omnibus/omnibuslaw10.ClockShifts", spec := "clockShifts", apart := false }
def ClockShiftsSaid : Prop := clockShiftsRow.holds Try.pinned (OpenSpec.ofChange clockShiftsSpec)

/-- ITS FALSE NEIGHBOUR: 'it returns false'. Refute it at one input. -/
def clockShiftsWrong : ChangeSpec := { name := "clockShifts", fn := fun _ => fun
  | [d1, d2, d3, d4] => { results := [.lit (.bool false)], args := [d1, d2, d3, d4] }
  | _ => none }
def ClockShiftsWrongFalsely : Prop := clockShiftsRow.holds Try.pinned (OpenSpec.ofChange clockShiftsWrong)

/-- 'omnibuslaw10.ClockAll': WHATEVER THE INPUT: true; the input reads as it did. -/
def clockAllSpec : ChangeSpec := { name := "clockAll", fn := fun _ => fun
  | [d1, d2] => { results := [.lit (.bool true)], args := [d1, d2] }
  | _ => none }
def clockAllRow : OpenClaim := { program := "ytbcbkokpbobngaa", sum := "47510d874641629b2f4158cec3ac61d35f6e9e53776f3bd8ba2be61835751c86", func := "omnibus/omnibuslaw10.ClockAll", spec := "clockAll", apart := false }
def ClockAllSaid : Prop := clockAllRow.holds Try.pinned (OpenSpec.ofChange clockAllSpec)

/-- ITS FALSE NEIGHBOUR: 'it returns false'. Refute it at one input. -/
def clockAllWrong : ChangeSpec := { name := "clockAll", fn := fun _ => fun
  | [d1, d2] => { results := [.lit (.bool false)], args := [d1, d2] }
  | _ => none }
def ClockAllWrongFalsely : Prop := clockAllRow.holds Try.pinned (OpenSpec.ofChange clockAllWrong)

/- THE SECOND FORM. 'bulk': how many values and letters a reading holds, each counted each time it is reached (what is shared counts as often as it is met; a slice's spare places count too). A statement '..UptoSaid' is the law's where the arguments, and the package variables that the reading takes, are together of bulk at most 1048576: NARROWER than '..Said'. Prove '..Said' where nothing that the law and all that it calls make is longer than what came in: it says more and counts as full. Else prove '..UptoSaid'. A law counts once. -/
mutual
def uptoBulk {H : Type} : DataW H → Nat
  | .lit (.string bytes) => bytes.length + 1
  | .lit _ => 1
  | .nil => 1
  | .ptr d => uptoBulk d + 1
  | .slice elems spare => uptoBulkAll elems + uptoBulkAll spare + 1
  | .agg parts => uptoBulkAll parts + 1
  | .iface _ d => uptoBulk d + 1
  | .map entries => uptoBulkEntries entries + 1
  | .held _ => 1
def uptoBulkAll {H : Type} : List (DataW H) → Nat
  | [] => 0
  | d :: r => uptoBulk d + uptoBulkAll r
def uptoBulkEntries {H : Type} : List (Lit × DataW H) → Nat
  | [] => 0
  | x :: r => uptoBulkEntry x + uptoBulkEntries r
def uptoBulkEntry {H : Type} : Lit × DataW H → Nat
  | (.string bytes, d) => bytes.length + uptoBulk d + 1
  | (_, d) => uptoBulk d + 1
 end
def uptoSmall : (H : Type) → List (DataW H) → Bool := fun _ ds => decide (uptoBulkAll ds ≤ 1048576)
def OpenSpec.upto (s : _root_.Go.ChangeSpec) : _root_.Go.OpenSpec := { _root_.Go.OpenSpec.ofChange s with cond := some uptoSmall }

/-- 'omnibuslaw10.ClockTells', WHERE WHAT IT READS IS OF BULK AT MOST 1048576: true; the input reads as it did. -/
def clockTellsUptoRow : OpenClaim := { program := "ytbcbkokpbobngaa", sum := "47510d874641629b2f4158cec3ac61d35f6e9e53776f3bd8ba2be61835751c86", func := "omnibus/omnibuslaw10.ClockTells", spec := "clockTells", apart := false, narrowed := true }
def ClockTellsUptoSaid : Prop := clockTellsUptoRow.holds Try.pinned (OpenSpec.upto clockTellsSpec)

/-- 'omnibuslaw10.ClockMiddles', WHERE WHAT IT READS IS OF BULK AT MOST 1048576: true; the input reads as it did. -/
def clockMiddlesUptoRow : OpenClaim := { program := "ytbcbkokpbobngaa", sum := "47510d874641629b2f4158cec3ac61d35f6e9e53776f3bd8ba2be61835751c86", func := "omnibus/omnibuslaw10.ClockMiddles", spec := "clockMiddles", apart := false, narrowed := true }
def ClockMiddlesUptoSaid : Prop := clockMiddlesUptoRow.holds Try.pinned (OpenSpec.upto clockMiddlesSpec)

/-- 'omnibuslaw10.ClockPairs', WHERE WHAT IT READS IS OF BULK AT MOST 1048576: true; the input reads as it did. -/
def clockPairsUptoRow : OpenClaim := { program := "ytbcbkokpbobngaa", sum := "47510d874641629b2f4158cec3ac61d35f6e9e53776f3bd8ba2be61835751c86", func := "omnibus/omnibuslaw10.ClockPairs", spec := "clockPairs", apart := false, narrowed := true }
def ClockPairsUptoSaid : Prop := clockPairsUptoRow.holds Try.pinned (OpenSpec.upto clockPairsSpec)

/-- 'omnibuslaw10.ClockTicks', WHERE WHAT IT READS IS OF BULK AT MOST 1048576: true; the input reads as it did. -/
def clockTicksUptoRow : OpenClaim := { program := "ytbcbkokpbobngaa", sum := "47510d874641629b2f4158cec3ac61d35f6e9e53776f3bd8ba2be61835751c86", func := "omnibus/omnibuslaw10.ClockTicks", spec := "clockTicks", apart := false, narrowed := true }
def ClockTicksUptoSaid : Prop := clockTicksUptoRow.holds Try.pinned (OpenSpec.upto clockTicksSpec)

/-- 'omnibuslaw10.ClockSteps', WHERE WHAT IT READS IS OF BULK AT MOST 1048576: true; the input reads as it did. -/
def clockStepsUptoRow : OpenClaim := { program := "ytbcbkokpbobngaa", sum := "47510d874641629b2f4158cec3ac61d35f6e9e53776f3bd8ba2be61835751c86", func := "omnibus/omnibuslaw10.ClockSteps", spec := "clockSteps", apart := false, narrowed := true }
def ClockStepsUptoSaid : Prop := clockStepsUptoRow.holds Try.pinned (OpenSpec.upto clockStepsSpec)

/-- 'omnibuslaw10.ClockShifts', WHERE WHAT IT READS IS OF BULK AT MOST 1048576: true; the input reads as it did. -/
def clockShiftsUptoRow : OpenClaim := { program := "ytbcbkokpbobngaa", sum := "47510d874641629b2f4158cec3ac61d35f6e9e53776f3bd8ba2be61835751c86", func := "omnibus/omnibuslaw10.ClockShifts", spec := "clockShifts", apart := false, narrowed := true }
def ClockShiftsUptoSaid : Prop := clockShiftsUptoRow.holds Try.pinned (OpenSpec.upto clockShiftsSpec)

/-- 'omnibuslaw10.ClockAll', WHERE WHAT IT READS IS OF BULK AT MOST 1048576: true; the input reads as it did. -/
def clockAllUptoRow : OpenClaim := { program := "ytbcbkokpbobngaa", sum := "47510d874641629b2f4158cec3ac61d35f6e9e53776f3bd8ba2be61835751c86", func := "omnibus/omnibuslaw10.ClockAll", spec := "clockAll", apart := false, narrowed := true }
def ClockAllUptoSaid : Prop := clockAllUptoRow.holds Try.pinned (OpenSpec.upto clockAllSpec)

end Rows
end Go.Proofs.Ytbcbkokpbobngaa
