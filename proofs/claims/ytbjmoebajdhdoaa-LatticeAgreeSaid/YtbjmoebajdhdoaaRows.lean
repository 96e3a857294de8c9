/-
  No cell of these rows narrows 'for every input' (looked for: loops, veiled, ifaces, maps, wideKeys, modest, calm, conditions, laid).
  DERIVED. THE GIVEN ROWS OF THIS SEAT. 6 by the template 'for every input the law returns true; each argument reads behind the call as it read before'; 0 by the template 'total and deterministic' (their statements: YtbjmoebajdhdoaaTotals.lean).
  GIVEN WITH THE SEED: the statements are not yours to turn. If you find one false, say at which input.
  Laid BY PROGRAM, IN A SANDBOX (cutbox-rows.mjs): the forced cells as the released guide's own fill.sh prints them over the translation 73274cc5ded32b41… (all of the seat's roots in one cut). By AI agents, Wed Nov 11 2026. No macro, syntax, notation, axiom, sorry.
-/
import Derived.Test.YtbjmoebajdhdoaaChecked
import GoSem.Claim
import GoSem.ClaimJoined
import GoSem.ClaimMapViews
import Derived.JoinedTies
import Derived.KernelRfl
namespace Go.Proofs.Ytbjmoebajdhdoaa
/- THE CELL 'sum', in the pinned program and in every row, IS THE sha256 OF THE DUMP (.gsa) THAT YtbjmoebajdhdoaaProg.lean LOADS. Nothing in Lean hashes anything: it is a label: what it is worth is what the hold of that sum in a sandbox is worth. -/
noncomputable def Try.pinned : Pinned := { name := "ytbjmoebajdhdoaa", sum := "73274cc5ded32b41de92dc0659c7de6b6fff32fd30dbbcd4d527319c48bc0d42", checked := Try.checked }
namespace Rows
def none {H : Type} : Left H := { results := [], args := [] }

/-- 'omnibuslaw11.LatticeTells': WHATEVER THE INPUT: true; the input reads as it did. -/
def latticeTellsSpec : ChangeSpec := { name := "latticeTells", fn := fun _ => fun
  | [d1, d2, d3, d4, d5, d6] => { results := [.lit (.bool true)], args := [d1, d2, d3, d4, d5, d6] }
  | _ => none }
def latticeTellsRow : OpenClaim := { program := "ytbjmoebajdhdoaa", sum := "73274cc5ded32b41de92dc0659c7de6b6fff32fd30dbbcd4d527319c48bc0d42", func := "omnibus/omnibuslaw11.LatticeTells", spec := "latticeTells", unfollowed := true, recurses := true, apart := false }
def LatticeTellsSaid : Prop := latticeTellsRow.holds Try.pinned (OpenSpec.ofChange latticeTellsSpec)

/-- ITS FALSE NEIGHBOUR: 'it returns false'. Refute it at one input. -/
def latticeTellsWrong : ChangeSpec := { name := "latticeTells", fn := fun _ => fun
  | [d1, d2, d3, d4, d5, d6] => { results := [.lit (.bool false)], args := [d1, d2, d3, d4, d5, d6] }
  | _ => none }
def LatticeTellsWrongFalsely : Prop := latticeTellsRow.holds Try.pinned (OpenSpec.ofChange latticeTellsWrong)

/-- 'omnibuslaw11.LatticeAgree': WHATEVER THE INPUT: true; the input reads as it did. -/
def latticeAgreeSpec : ChangeSpec := { name := "latticeAgree", fn := fun _ => fun
  | [d1, d2, d3, d4, d5, d6, d7] => { results := [.lit (.bool true)], args := [d1, d2, d3, d4, d5, d6, d7] }
  | _ => none }
def latticeAgreeRow : OpenClaim := { program := "ytbjmoebajdhdoaa", sum := "73274cc5ded32b41de92dc0659c7de6b6fff32fd30dbbcd4d527319c48bc0d42", func := "omnibus/omnibuslaw11.LatticeAgree", spec := "latticeAgree", unfollowed := true, recurses := true, apart := false }
def LatticeAgreeSaid : Prop := latticeAgreeRow.holds Try.pinned (OpenSpec.ofChange latticeAgreeSpec)

/-- ITS FALSE NEIGHBOUR: 'it returns false'. Refute it at one input. -/
def latticeAgreeWrong : ChangeSpec := { name := "latticeAgree", fn := fun _ => fun
  | [d1, d2, d3, d4, d5, d6, d7] => { results := [.lit (.bool false)], args := [d1, d2, d3, d4, d5, d6, d7] }
  | _ => none }
def LatticeAgreeWrongFalsely : Prop := latticeAgreeRow.holds Try.pinned (OpenSpec.ofChange latticeAgreeWrong)

/-- 'omnibuslaw11.LatticeTurns': WHATEVER THE INPUT: true; the input reads as it did. -/
def latticeTurnsSpec : ChangeSpec := { name := "latticeTurns", fn := fun _ => fun
  | [d1, d2, d3] => { results := [.lit (.bool true)], args := [d1, d2, d3] }
  | _ => none }
def latticeTurnsRow : OpenClaim := { program := "ytbjmoebajdhdoaa", sum := "73274cc5ded32b41de92dc0659c7de6b6fff32fd30dbbcd4d527319c48bc0d42", func := "omnibus/omnibuslaw11.LatticeTurns", spec := "latticeTurns", unfollowed := true, recurses := true, apart := false }
def LatticeTurnsSaid : Prop := latticeTurnsRow.holds Try.pinned (OpenSpec.ofChange latticeTurnsSpec)

/-- ITS FALSE NEIGHBOUR: 'it returns false'. Refute it at one input. -/
def latticeTurnsWrong : ChangeSpec := { name := "latticeTurns", fn := fun _ => fun
  | [d1, d2, d3] => { results := [.lit (.bool false)], args := [d1, d2, d3] }
  | _ => none }
def LatticeTurnsWrongFalsely : Prop := latticeTurnsRow.holds Try.pinned (OpenSpec.ofChange latticeTurnsWrong)

/-- 'omnibuslaw11.LatticeRises': WHATEVER THE INPUT: true; the input reads as it did. -/
def latticeRisesSpec : ChangeSpec := { name := "latticeRises", fn := fun _ => fun
  | [d1, d2, d3, d4, d5] => { results := [.lit (.bool true)], args := [d1, d2, d3, d4, d5] }
  | _ => none }
def latticeRisesRow : OpenClaim := { program := "ytbjmoebajdhdoaa", sum := "73274cc5ded32b41de92dc0659c7de6b6fff32fd30dbbcd4d527319c48bc0d42", func := "omnibus/omnibuslaw11.LatticeRises", spec := "latticeRises", unfollowed := true, recurses := true, apart := false }
def LatticeRisesSaid : Prop := latticeRisesRow.holds Try.pinned (OpenSpec.ofChange latticeRisesSpec)

/-- ITS FALSE NEIGHBOUR: 'it returns false'. Refute it at one input. -/
def latticeRisesWrong : ChangeSpec := { name := "latticeRises", fn := fun _ => fun
  | [d1, d2, d3, d4, d5] => { results := [.lit (.bool false)], args := [d1, d2, d3, d4, d5] }
  | _ => none }
def LatticeRisesWrongFalsely : Prop := latticeRisesRow.holds Try.pinned (OpenSpec.ofChange latticeRisesWrong)

/-- 'omnibuslaw11.LatticeNext': WHATEVER THE INPUT: true; the input reads as it did. -/
def latticeNextSpec : ChangeSpec := { name := "latticeNext", fn := fun _ => fun
  | [d1, d2, d3] => { results := [.lit (.bool true)], args := [d1, d2, d3] }
  | _ => none }
def latticeNextRow : OpenClaim := { program := "ytbjmoebajdhdoaa", sum := "73274cc5ded32b41de92dc0659c7de6b6fff32fd30dbbcd4d527319c48bc0d42", func := "omnibus/omnibuslaw11.LatticeNext", spec := "latticeNext", unfollowed := true, recurses := true, apart := false }
def LatticeNextSaid : Prop := latticeNextRow.holds Try.pinned (OpenSpec.ofChange latticeNextSpec)

/-- ITS FALSE NEIGHBOUR: 'it returns false'. Refute it at one input. -/
def latticeNextWrong : ChangeSpec := { name := "latticeNext", fn := fun _ => fun
  | [d1, d2, d3] => { results := [.lit (.bool false)], args := [d1, d2, d3] }
  | _ => none }
def LatticeNextWrongFalsely : Prop := latticeNextRow.holds Try.pinned (OpenSpec.ofChange latticeNextWrong)

/-- 'omnibuslaw11.LatticeFar': WHATEVER THE INPUT: true; the input reads as it did. -/
def latticeFarSpec : ChangeSpec := { name := "latticeFar", fn := fun _ => fun
  | [d1, d2, d3, d4, d5] => { results := [.lit (.bool true)], args := [d1, d2, d3, d4, d5] }
  | _ => none }
def latticeFarRow : OpenClaim := { program := "ytbjmoebajdhdoaa", sum := "73274cc5ded32b41de92dc0659c7de6b6fff32fd30dbbcd4d527319c48bc0d42", func := "omnibus/omnibuslaw11.LatticeFar", spec := "latticeFar", unfollowed := true, recurses := true, apart := false }
def LatticeFarSaid : Prop := latticeFarRow.holds Try.pinned (OpenSpec.ofChange latticeFarSpec)

/-- ITS FALSE NEIGHBOUR: 'it returns false'. Refute it at one input. -/
def latticeFarWrong : ChangeSpec := { name := "latticeFar", fn := fun _ => fun
  | [d1, d2, d3, d4, d5] => { results := [.lit (.bool false)], args := [d1, d2, d3, d4, d5] }
  | _ => none }
def LatticeFarWrongFalsely : Prop := latticeFarRow.holds Try.pinned (OpenSpec.ofChange latticeFarWrong)

/- THE SECOND FORM. 'bulk': how many values and letters a reading holds, each counted each time it is reached (what is shared counts as often as it is met; a slice's spare places count too). A statement '..UptoSaid' is the law's where the arguments, and the package variables that the reading takes, are together of bulk at most 1048576: NARROWER than '..Said'. Prove '..Said' where nothing that the law and all that it calls make is longer than what came in: it says more and counts as full. Else prove '..UptoSaid'. A law counts once. -/
mutual
def uptoBulk {H : Type} : DataW H → Nat
  | .lit (.string bytes) => bytes.length + 1
  | .lit _ => 1
  | .nil => 1
  | .ptr d => uptoBulk d + 1
  | .slice elems spare => uptoBulkAll elems + uptoBulkAll spare + 1
  | .agg parts => uptoBulkAll parts + 1
  | .iface _ d => uptoBulk d + 1
  | .map entries => uptoBulkEntries entries + 1
  | .held _ => 1
def uptoBulkAll {H : Type} : List (DataW H) → Nat
  | [] => 0
  | d :: r => uptoBulk d + uptoBulkAll r
def uptoBulkEntries {H : Type} : List (Lit × DataW H) → Nat
  | [] => 0
  | x :: r => uptoBulkEntry x + uptoBulkEntries r
def uptoBulkEntry {H : Type} : Lit × DataW H → Nat
  | (.string bytes, d) => bytes.length + uptoBulk d + 1
  | (_, d) => uptoBulk d + 1
 end
def uptoSmall : (H : Type) → List (DataW H) → Bool := fun _ ds => decide (uptoBulkAll ds ≤ 1048576)
def OpenSpec.upto (s : _root_.Go.ChangeSpec) : _root_.Go.OpenSpec := { _root_.Go.OpenSpec.ofChange s with cond := some uptoSmall }

/-- 'omnibuslaw11.LatticeTells', WHERE WHAT IT READS IS OF BULK AT MOST 1048576: true; the input reads as it did. -/
def latticeTellsUptoRow : OpenClaim := { program := "ytbjmoebajdhdoaa", sum := "73274cc5ded32b41de92dc0659c7de6b6fff32fd30dbbcd4d527319c48bc0d42", func := "omnibus/omnibuslaw11.LatticeTells", spec := "latticeTells", unfollowed := true, recurses := true, apart := false, narrowed := true }
def LatticeTellsUptoSaid : Prop := latticeTellsUptoRow.holds Try.pinned (OpenSpec.upto latticeTellsSpec)

/-- 'omnibuslaw11.LatticeAgree', WHERE WHAT IT READS IS OF BULK AT MOST 1048576: true; the input reads as it did. -/
def latticeAgreeUptoRow : OpenClaim := { program := "ytbjmoebajdhdoaa", sum := "73274cc5ded32b41de92dc0659c7de6b6fff32fd30dbbcd4d527319c48bc0d42", func := "omnibus/omnibuslaw11.LatticeAgree", spec := "latticeAgree", unfollowed := true, recurses := true, apart := false, narrowed := true }
def LatticeAgreeUptoSaid : Prop := latticeAgreeUptoRow.holds Try.pinned (OpenSpec.upto latticeAgreeSpec)

/-- 'omnibuslaw11.LatticeTurns', WHERE WHAT IT READS IS OF BULK AT MOST 1048576: true; the input reads as it did. -/
def latticeTurnsUptoRow : OpenClaim := { program := "ytbjmoebajdhdoaa", sum := "73274cc5ded32b41de92dc0659c7de6b6fff32fd30dbbcd4d527319c48bc0d42", func := "omnibus/omnibuslaw11.LatticeTurns", spec := "latticeTurns", unfollowed := true, recurses := true, apart := false, narrowed := true }
def LatticeTurnsUptoSaid : Prop := latticeTurnsUptoRow.holds Try.pinned (OpenSpec.upto latticeTurnsSpec)

/-- 'omnibuslaw11.LatticeRises', WHERE WHAT IT READS IS OF BULK AT MOST 1048576: true; the input reads as it did. -/
def latticeRisesUptoRow : OpenClaim := { program := "ytbjmoebajdhdoaa", sum := "73274cc5ded32b41de92dc0659c7de6b6fff32fd30dbbcd4d527319c48bc0d42", func := "omnibus/omnibuslaw11.LatticeRises", spec := "latticeRises", unfollowed := true, recurses := true, apart := false, narrowed := true }
def LatticeRisesUptoSaid : Prop := latticeRisesUptoRow.holds Try.pinned (OpenSpec.upto latticeRisesSpec)

/-- 'omnibuslaw11.LatticeNext', WHERE WHAT IT READS IS OF BULK AT MOST 1048576: true; the input reads as it did. -/
def latticeNextUptoRow : OpenClaim := { program := "ytbjmoebajdhdoaa", sum := "73274cc5ded32b41de92dc0659c7de6b6fff32fd30dbbcd4d527319c48bc0d42", func := "omnibus/omnibuslaw11.LatticeNext", spec := "latticeNext", unfollowed := true, recurses := true, apart := false, narrowed := true }
def LatticeNextUptoSaid : Prop := latticeNextUptoRow.holds Try.pinned (OpenSpec.upto latticeNextSpec)

/-- 'omnibuslaw11.LatticeFar', WHERE WHAT IT READS IS OF BULK AT MOST 1048576: true; the input reads as it did. -/
def latticeFarUptoRow : OpenClaim := { program := "ytbjmoebajdhdoaa", sum := "73274cc5ded32b41de92dc0659c7de6b6fff32fd30dbbcd4d527319c48bc0d42", func := "omnibus/omnibuslaw11.LatticeFar", spec := "latticeFar", unfollowed := true, recurses := true, apart := false, narrowed := true }
def LatticeFarUptoSaid : Prop := latticeFarUptoRow.holds Try.pinned (OpenSpec.upto latticeFarSpec)

end Rows
end Go.Proofs.Ytbjmoebajdhdoaa
