/-
  No cell of these rows narrows 'for every input' (looked for: loops, veiled, ifaces, maps, wideKeys, modest, calm, conditions, laid).
  DERIVED. THE GIVEN ROWS OF THIS SEAT. 5 by the template 'for every input the law returns true; each argument reads behind the call as it read before'; 0 by the template 'total and deterministic' (their statements: YtmbmpcjlddnpcaaTotals.lean).
  GIVEN WITH THE SEED: the statements are not yours to turn. If you find one false, say at which input.
  Laid BY PROGRAM, IN A SANDBOX (cutbox-rows.mjs): the forced cells as the released guide's own fill.sh prints them over the translation bcfd67b6b520be40… (all of the seat's roots in one cut). By AI agents, Wed Nov 11 2026. No macro, syntax, notation, axiom, sorry.
-/
import Derived.Test.YtmbmpcjlddnpcaaChecked
import GoSem.Claim
import GoSem.ClaimJoined
import GoSem.ClaimMapViews
import Derived.JoinedTies
import Derived.KernelRfl
namespace Go.Proofs.Ytmbmpcjlddnpcaa
/- THE CELL 'sum', in the pinned program and in every row, IS THE sha256 OF THE DUMP (.gsa) THAT YtmbmpcjlddnpcaaProg.lean LOADS. Nothing in Lean hashes anything: it is a label: what it is worth is what the hold of that sum in a sandbox is worth. -/
noncomputable def Try.pinned : Pinned := { name := "ytmbmpcjlddnpcaa", sum := "bcfd67b6b520be40ba1ae21dc9e7fddd8b763a8ee6203d79b92267a96de221c7", checked := Try.checked }
namespace Rows
def none {H : Type} : Left H := { results := [], args := [] }

/-- 'omnibuslaw12.CliqueParts': WHATEVER THE INPUT: true; the input reads as it did. -/
def cliquePartsSpec : ChangeSpec := { name := "cliqueParts", fn := fun _ => fun
  | [d1, d2] => { results := [.lit (.bool true)], args := [d1, d2] }
  | _ => none }
def cliquePartsRow : OpenClaim := { program := "ytmbmpcjlddnpcaa", sum := "bcfd67b6b520be40ba1ae21dc9e7fddd8b763a8ee6203d79b92267a96de221c7", func := "omnibus/omnibuslaw12.CliqueParts", spec := "cliqueParts", unfollowed := true, recurses := true, apart := false }
def CliquePartsSaid : Prop := cliquePartsRow.holds Try.pinned (OpenSpec.ofChange cliquePartsSpec)

/-- ITS FALSE NEIGHBOUR: 'it returns false'. Refute it at one input. -/
def cliquePartsWrong : ChangeSpec := { name := "cliqueParts", fn := fun _ => fun
  | [d1, d2] => { results := [.lit (.bool false)], args := [d1, d2] }
  | _ => none }
def CliquePartsWrongFalsely : Prop := cliquePartsRow.holds Try.pinned (OpenSpec.ofChange cliquePartsWrong)

/-- 'omnibuslaw12.CliqueAges': WHATEVER THE INPUT: true; the input reads as it did. -/
def cliqueAgesSpec : ChangeSpec := { name := "cliqueAges", fn := fun _ => fun
  | [d1, d2] => { results := [.lit (.bool true)], args := [d1, d2] }
  | _ => none }
def cliqueAgesRow : OpenClaim := { program := "ytmbmpcjlddnpcaa", sum := "bcfd67b6b520be40ba1ae21dc9e7fddd8b763a8ee6203d79b92267a96de221c7", func := "omnibus/omnibuslaw12.CliqueAges", spec := "cliqueAges", unfollowed := true, recurses := true, apart := false }
def CliqueAgesSaid : Prop := cliqueAgesRow.holds Try.pinned (OpenSpec.ofChange cliqueAgesSpec)

/-- ITS FALSE NEIGHBOUR: 'it returns false'. Refute it at one input. -/
def cliqueAgesWrong : ChangeSpec := { name := "cliqueAges", fn := fun _ => fun
  | [d1, d2] => { results := [.lit (.bool false)], args := [d1, d2] }
  | _ => none }
def CliqueAgesWrongFalsely : Prop := cliqueAgesRow.holds Try.pinned (OpenSpec.ofChange cliqueAgesWrong)

/-- 'omnibuslaw12.CliqueAcks': WHATEVER THE INPUT: true; the input reads as it did. -/
def cliqueAcksSpec : ChangeSpec := { name := "cliqueAcks", fn := fun _ => fun
  | [d1, d2, d3, d4] => { results := [.lit (.bool true)], args := [d1, d2, d3, d4] }
  | _ => none }
def cliqueAcksRow : OpenClaim := { program := "ytmbmpcjlddnpcaa", sum := "bcfd67b6b520be40ba1ae21dc9e7fddd8b763a8ee6203d79b92267a96de221c7", func := "omnibus/omnibuslaw12.CliqueAcks", spec := "cliqueAcks", unfollowed := true, recurses := true, apart := false }
def CliqueAcksSaid : Prop := cliqueAcksRow.holds Try.pinned (OpenSpec.ofChange cliqueAcksSpec)

/-- ITS FALSE NEIGHBOUR: 'it returns false'. Refute it at one input. -/
def cliqueAcksWrong : ChangeSpec := { name := "cliqueAcks", fn := fun _ => fun
  | [d1, d2, d3, d4] => { results := [.lit (.bool false)], args := [d1, d2, d3, d4] }
  | _ => none }
def CliqueAcksWrongFalsely : Prop := cliqueAcksRow.holds Try.pinned (OpenSpec.ofChange cliqueAcksWrong)

/-- 'omnibuslaw12.CliqueCounts': WHATEVER THE INPUT: true; the input reads as it did. -/
def cliqueCountsSpec : ChangeSpec := { name := "cliqueCounts", fn := fun _ => fun
  | [d] => { results := [.lit (.bool true)], args := [d] }
  | _ => none }
def cliqueCountsRow : OpenClaim := { program := "ytmbmpcjlddnpcaa", sum := "bcfd67b6b520be40ba1ae21dc9e7fddd8b763a8ee6203d79b92267a96de221c7", func := "omnibus/omnibuslaw12.CliqueCounts", spec := "cliqueCounts", unfollowed := true, recurses := true, apart := false }
def CliqueCountsSaid : Prop := cliqueCountsRow.holds Try.pinned (OpenSpec.ofChange cliqueCountsSpec)

/-- ITS FALSE NEIGHBOUR: 'it returns false'. Refute it at one input. -/
def cliqueCountsWrong : ChangeSpec := { name := "cliqueCounts", fn := fun _ => fun
  | [d] => { results := [.lit (.bool false)], args := [d] }
  | _ => none }
def CliqueCountsWrongFalsely : Prop := cliqueCountsRow.holds Try.pinned (OpenSpec.ofChange cliqueCountsWrong)

/-- 'omnibuslaw12.CliqueMost': WHATEVER THE INPUT: true; the input reads as it did. -/
def cliqueMostSpec : ChangeSpec := { name := "cliqueMost", fn := fun _ => fun
  | [d1, d2, d3] => { results := [.lit (.bool true)], args := [d1, d2, d3] }
  | _ => none }
def cliqueMostRow : OpenClaim := { program := "ytmbmpcjlddnpcaa", sum := "bcfd67b6b520be40ba1ae21dc9e7fddd8b763a8ee6203d79b92267a96de221c7", func := "omnibus/omnibuslaw12.CliqueMost", spec := "cliqueMost", unfollowed := true, recurses := true, apart := false }
def CliqueMostSaid : Prop := cliqueMostRow.holds Try.pinned (OpenSpec.ofChange cliqueMostSpec)

/-- ITS FALSE NEIGHBOUR: 'it returns false'. Refute it at one input. -/
def cliqueMostWrong : ChangeSpec := { name := "cliqueMost", fn := fun _ => fun
  | [d1, d2, d3] => { results := [.lit (.bool false)], args := [d1, d2, d3] }
  | _ => none }
def CliqueMostWrongFalsely : Prop := cliqueMostRow.holds Try.pinned (OpenSpec.ofChange cliqueMostWrong)

/- THE SECOND FORM. 'bulk': how many values and letters a reading holds, each counted each time it is reached (what is shared counts as often as it is met; a slice's spare places count too). A statement '..UptoSaid' is the law's where the arguments, and the package variables that the reading takes, are together of bulk at most 1048576: NARROWER than '..Said'. Prove '..Said' where nothing that the law and all that it calls make is longer than what came in: it says more and counts as full. Else prove '..UptoSaid'. A law counts once. -/
mutual
def uptoBulk {H : Type} : DataW H → Nat
  | .lit (.string bytes) => bytes.length + 1
  | .lit _ => 1
  | .nil => 1
  | .ptr d => uptoBulk d + 1
  | .slice elems spare => uptoBulkAll elems + uptoBulkAll spare + 1
  | .agg parts => uptoBulkAll parts + 1
  | .iface _ d => uptoBulk d + 1
  | .map entries => uptoBulkEntries entries + 1
  | .held _ => 1
def uptoBulkAll {H : Type} : List (DataW H) → Nat
  | [] => 0
  | d :: r => uptoBulk d + uptoBulkAll r
def uptoBulkEntries {H : Type} : List (Lit × DataW H) → Nat
  | [] => 0
  | x :: r => uptoBulkEntry x + uptoBulkEntries r
def uptoBulkEntry {H : Type} : Lit × DataW H → Nat
  | (.string bytes, d) => bytes.length + uptoBulk d + 1
  | (_, d) => uptoBulk d + 1
 end
def uptoSmall : (H : Type) → List (DataW H) → Bool := fun _ ds => decide (uptoBulkAll ds ≤ 1048576)
def OpenSpec.upto (s : _root_.Go.ChangeSpec) : _root_.Go.OpenSpec := { _root_.Go.OpenSpec.ofChange s with cond := some uptoSmall }

/-- 'omnibuslaw12.CliqueParts', WHERE WHAT IT READS IS OF BULK AT MOST 1048576: true; the input reads as it did. -/
def cliquePartsUptoRow : OpenClaim := { program := "ytmbmpcjlddnpcaa", sum := "bcfd67b6b520be40ba1ae21dc9e7fddd8b763a8ee6203d79b92267a96de221c7", func := "omnibus/omnibuslaw12.CliqueParts", spec := "cliqueParts", unfollowed := true, recurses := true, apart := false, narrowed := true }
def CliquePartsUptoSaid : Prop := cliquePartsUptoRow.holds Try.pinned (OpenSpec.upto cliquePartsSpec)

/-- 'omnibuslaw12.CliqueAges', WHERE WHAT IT READS IS OF BULK AT MOST 1048576: true; the input reads as it did. -/
def cliqueAgesUptoRow : OpenClaim := { program := "ytmbmpcjlddnpcaa", sum := "bcfd67b6b520be40ba1ae21dc9e7fddd8b763a8ee6203d79b92267a96de221c7", func := "omnibus/omnibuslaw12.CliqueAges", spec := "cliqueAges", unfollowed := true, recurses := true, apart := false, narrowed := true }
def CliqueAgesUptoSaid : Prop := cliqueAgesUptoRow.holds Try.pinned (OpenSpec.upto cliqueAgesSpec)

/-- 'omnibuslaw12.CliqueAcks', WHERE WHAT IT READS IS OF BULK AT MOST 1048576: true; the input reads as it did. -/
def cliqueAcksUptoRow : OpenClaim := { program := "ytmbmpcjlddnpcaa", sum := "bcfd67b6b520be40ba1ae21dc9e7fddd8b763a8ee6203d79b92267a96de221c7", func := "omnibus/omnibuslaw12.CliqueAcks", spec := "cliqueAcks", unfollowed := true, recurses := true, apart := false, narrowed := true }
def CliqueAcksUptoSaid : Prop := cliqueAcksUptoRow.holds Try.pinned (OpenSpec.upto cliqueAcksSpec)

/-- 'omnibuslaw12.CliqueCounts', WHERE WHAT IT READS IS OF BULK AT MOST 1048576: true; the input reads as it did. -/
def cliqueCountsUptoRow : OpenClaim := { program := "ytmbmpcjlddnpcaa", sum := "bcfd67b6b520be40ba1ae21dc9e7fddd8b763a8ee6203d79b92267a96de221c7", func := "omnibus/omnibuslaw12.CliqueCounts", spec := "cliqueCounts", unfollowed := true, recurses := true, apart := false, narrowed := true }
def CliqueCountsUptoSaid : Prop := cliqueCountsUptoRow.holds Try.pinned (OpenSpec.upto cliqueCountsSpec)

/-- 'omnibuslaw12.CliqueMost', WHERE WHAT IT READS IS OF BULK AT MOST 1048576: true; the input reads as it did. -/
def cliqueMostUptoRow : OpenClaim := { program := "ytmbmpcjlddnpcaa", sum := "bcfd67b6b520be40ba1ae21dc9e7fddd8b763a8ee6203d79b92267a96de221c7", func := "omnibus/omnibuslaw12.CliqueMost", spec := "cliqueMost", unfollowed := true, recurses := true, apart := false, narrowed := true }
def CliqueMostUptoSaid : Prop := cliqueMostUptoRow.holds Try.pinned (OpenSpec.upto cliqueMostSpec)

end Rows
end Go.Proofs.Ytmbmpcjlddnpcaa
