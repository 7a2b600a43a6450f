/-
  No cell of these rows narrows 'for every input' (looked for: loops, veiled, ifaces, maps, wideKeys, modest, calm, conditions, laid).
  DERIVED. THE GIVEN ROWS OF THIS SEAT. 9 by the template 'for every input the law returns true; each argument reads behind the call as it read before'; 0 by the template 'total and deterministic' (their statements: YthjiiedpplimpaaTotals.lean).
  GIVEN WITH THE SEED: the statements are not yours to turn. If you find one false, say at which input.
  Laid BY PROGRAM, IN A SANDBOX (cutbox-rows.mjs): the forced cells as the released guide's own fill.sh prints them over the translation c4a2c11c5538812a… (all of the seat's roots in one cut). By AI agents, Wed Nov 11 2026. No macro, syntax, notation, axiom, sorry.
-/
import Derived.Test.YthjiiedpplimpaaChecked
import GoSem.Claim
import GoSem.ClaimJoined
import GoSem.ClaimMapViews
import Derived.JoinedTies
import Derived.KernelRfl
namespace Go.Proofs.Ythjiiedpplimpaa
/- THE CELL 'sum', in the pinned program and in every row, IS THE sha256 OF THE DUMP (.gsa) THAT YthjiiedpplimpaaProg.lean LOADS. Nothing in Lean hashes anything: it is a label: what it is worth is what the hold of that sum in a sandbox is worth. -/
noncomputable def Try.pinned : Pinned := { name := "ythjiiedpplimpaa", sum := "c4a2c11c5538812a739b1e03f762755e48239817ced40249bf43a3be7209042a", checked := Try.checked }
namespace Rows
def none {H : Type} : Left H := { results := [], args := [] }

/-- 'parleylaw01.CellsNames': WHATEVER THE INPUT: true; the input reads as it did. -/
def cellsNamesSpec : ChangeSpec := { name := "cellsNames", fn := fun _ => fun
  | [] => { results := [.lit (.bool true)], args := [] }
  | _ => none }
def cellsNamesRow : OpenClaim := { program := "ythjiiedpplimpaa", sum := "c4a2c11c5538812a739b1e03f762755e48239817ced40249bf43a3be7209042a", func := "parley/parleylaw01.CellsNames", spec := "cellsNames", apart := false }
def CellsNamesSaid : Prop := cellsNamesRow.holds Try.pinned (OpenSpec.ofChange cellsNamesSpec)

/-- ITS FALSE NEIGHBOUR: 'it returns false'. Refute it at one input. -/
def cellsNamesWrong : ChangeSpec := { name := "cellsNames", fn := fun _ => fun
  | [] => { results := [.lit (.bool false)], args := [] }
  | _ => none }
def CellsNamesWrongFalsely : Prop := cellsNamesRow.holds Try.pinned (OpenSpec.ofChange cellsNamesWrong)

/-- 'parleylaw06.SeqTurns': WHATEVER THE INPUT: true; the input reads as it did. -/
def seqTurnsSpec : ChangeSpec := { name := "seqTurns", fn := fun _ => fun
  | [d1, d2, d3] => { results := [.lit (.bool true)], args := [d1, d2, d3] }
  | _ => none }
def seqTurnsRow : OpenClaim := { program := "ythjiiedpplimpaa", sum := "c4a2c11c5538812a739b1e03f762755e48239817ced40249bf43a3be7209042a", func := "parley/parleylaw06.SeqTurns", spec := "seqTurns", apart := false }
def SeqTurnsSaid : Prop := seqTurnsRow.holds Try.pinned (OpenSpec.ofChange seqTurnsSpec)

/-- ITS FALSE NEIGHBOUR: 'it returns false'. Refute it at one input. -/
def seqTurnsWrong : ChangeSpec := { name := "seqTurns", fn := fun _ => fun
  | [d1, d2, d3] => { results := [.lit (.bool false)], args := [d1, d2, d3] }
  | _ => none }
def SeqTurnsWrongFalsely : Prop := seqTurnsRow.holds Try.pinned (OpenSpec.ofChange seqTurnsWrong)

/-- 'parleylaw06.SeqWords': WHATEVER THE INPUT: true; the input reads as it did. -/
def seqWordsSpec : ChangeSpec := { name := "seqWords", fn := fun _ => fun
  | [d] => { results := [.lit (.bool true)], args := [d] }
  | _ => none }
def seqWordsRow : OpenClaim := { program := "ythjiiedpplimpaa", sum := "c4a2c11c5538812a739b1e03f762755e48239817ced40249bf43a3be7209042a", func := "parley/parleylaw06.SeqWords", spec := "seqWords", apart := false }
def SeqWordsSaid : Prop := seqWordsRow.holds Try.pinned (OpenSpec.ofChange seqWordsSpec)

/-- ITS FALSE NEIGHBOUR: 'it returns false'. Refute it at one input. -/
def seqWordsWrong : ChangeSpec := { name := "seqWords", fn := fun _ => fun
  | [d] => { results := [.lit (.bool false)], args := [d] }
  | _ => none }
def SeqWordsWrongFalsely : Prop := seqWordsRow.holds Try.pinned (OpenSpec.ofChange seqWordsWrong)

/-- 'parleylaw01.CellsMeanwhile': WHATEVER THE INPUT: true; the input reads as it did. -/
def cellsMeanwhileSpec : ChangeSpec := { name := "cellsMeanwhile", fn := fun _ => fun
  | [d1, d2] => { results := [.lit (.bool true)], args := [d1, d2] }
  | _ => none }
def cellsMeanwhileRow : OpenClaim := { program := "ythjiiedpplimpaa", sum := "c4a2c11c5538812a739b1e03f762755e48239817ced40249bf43a3be7209042a", func := "parley/parleylaw01.CellsMeanwhile", spec := "cellsMeanwhile", unfollowed := true, recurses := true, apart := false }
def CellsMeanwhileSaid : Prop := cellsMeanwhileRow.holds Try.pinned (OpenSpec.ofChange cellsMeanwhileSpec)

/-- ITS FALSE NEIGHBOUR: 'it returns false'. Refute it at one input. -/
def cellsMeanwhileWrong : ChangeSpec := { name := "cellsMeanwhile", fn := fun _ => fun
  | [d1, d2] => { results := [.lit (.bool false)], args := [d1, d2] }
  | _ => none }
def CellsMeanwhileWrongFalsely : Prop := cellsMeanwhileRow.holds Try.pinned (OpenSpec.ofChange cellsMeanwhileWrong)

/-- 'parleylaw06.SeqPlays': WHATEVER THE INPUT: true; the input reads as it did. -/
def seqPlaysSpec : ChangeSpec := { name := "seqPlays", fn := fun _ => fun
  | [d1, d2] => { results := [.lit (.bool true)], args := [d1, d2] }
  | _ => none }
def seqPlaysRow : OpenClaim := { program := "ythjiiedpplimpaa", sum := "c4a2c11c5538812a739b1e03f762755e48239817ced40249bf43a3be7209042a", func := "parley/parleylaw06.SeqPlays", spec := "seqPlays", apart := false }
def SeqPlaysSaid : Prop := seqPlaysRow.holds Try.pinned (OpenSpec.ofChange seqPlaysSpec)

/-- ITS FALSE NEIGHBOUR: 'it returns false'. Refute it at one input. -/
def seqPlaysWrong : ChangeSpec := { name := "seqPlays", fn := fun _ => fun
  | [d1, d2] => { results := [.lit (.bool false)], args := [d1, d2] }
  | _ => none }
def SeqPlaysWrongFalsely : Prop := seqPlaysRow.holds Try.pinned (OpenSpec.ofChange seqPlaysWrong)

/-- 'parleylaw06.SeqNil': WHATEVER THE INPUT: true; the input reads as it did. -/
def seqNilSpec : ChangeSpec := { name := "seqNil", fn := fun _ => fun
  | [d] => { results := [.lit (.bool true)], args := [d] }
  | _ => none }
def seqNilRow : OpenClaim := { program := "ythjiiedpplimpaa", sum := "c4a2c11c5538812a739b1e03f762755e48239817ced40249bf43a3be7209042a", func := "parley/parleylaw06.SeqNil", spec := "seqNil", apart := false }
def SeqNilSaid : Prop := seqNilRow.holds Try.pinned (OpenSpec.ofChange seqNilSpec)

/-- ITS FALSE NEIGHBOUR: 'it returns false'. Refute it at one input. -/
def seqNilWrong : ChangeSpec := { name := "seqNil", fn := fun _ => fun
  | [d] => { results := [.lit (.bool false)], args := [d] }
  | _ => none }
def SeqNilWrongFalsely : Prop := seqNilRow.holds Try.pinned (OpenSpec.ofChange seqNilWrong)

/-- 'parleylaw01.CellsMeans': WHATEVER THE INPUT: true; the input reads as it did. -/
def cellsMeansSpec : ChangeSpec := { name := "cellsMeans", fn := fun _ => fun
  | [d1, d2, d3] => { results := [.lit (.bool true)], args := [d1, d2, d3] }
  | _ => none }
def cellsMeansRow : OpenClaim := { program := "ythjiiedpplimpaa", sum := "c4a2c11c5538812a739b1e03f762755e48239817ced40249bf43a3be7209042a", func := "parley/parleylaw01.CellsMeans", spec := "cellsMeans", unfollowed := true, recurses := true, apart := false }
def CellsMeansSaid : Prop := cellsMeansRow.holds Try.pinned (OpenSpec.ofChange cellsMeansSpec)

/-- ITS FALSE NEIGHBOUR: 'it returns false'. Refute it at one input. -/
def cellsMeansWrong : ChangeSpec := { name := "cellsMeans", fn := fun _ => fun
  | [d1, d2, d3] => { results := [.lit (.bool false)], args := [d1, d2, d3] }
  | _ => none }
def CellsMeansWrongFalsely : Prop := cellsMeansRow.holds Try.pinned (OpenSpec.ofChange cellsMeansWrong)

/-- 'parleylaw01.CellsNil': WHATEVER THE INPUT: true; the input reads as it did. -/
def cellsNilSpec : ChangeSpec := { name := "cellsNil", fn := fun _ => fun
  | [] => { results := [.lit (.bool true)], args := [] }
  | _ => none }
def cellsNilRow : OpenClaim := { program := "ythjiiedpplimpaa", sum := "c4a2c11c5538812a739b1e03f762755e48239817ced40249bf43a3be7209042a", func := "parley/parleylaw01.CellsNil", spec := "cellsNil", unfollowed := true, recurses := true, apart := false }
def CellsNilSaid : Prop := cellsNilRow.holds Try.pinned (OpenSpec.ofChange cellsNilSpec)

/-- ITS FALSE NEIGHBOUR: 'it returns false'. Refute it at one input. -/
def cellsNilWrong : ChangeSpec := { name := "cellsNil", fn := fun _ => fun
  | [] => { results := [.lit (.bool false)], args := [] }
  | _ => none }
def CellsNilWrongFalsely : Prop := cellsNilRow.holds Try.pinned (OpenSpec.ofChange cellsNilWrong)

/-- 'parleylaw01.CellsPlays': WHATEVER THE INPUT: true; the input reads as it did. -/
def cellsPlaysSpec : ChangeSpec := { name := "cellsPlays", fn := fun _ => fun
  | [d1, d2, d3] => { results := [.lit (.bool true)], args := [d1, d2, d3] }
  | _ => none }
def cellsPlaysRow : OpenClaim := { program := "ythjiiedpplimpaa", sum := "c4a2c11c5538812a739b1e03f762755e48239817ced40249bf43a3be7209042a", func := "parley/parleylaw01.CellsPlays", spec := "cellsPlays", unfollowed := true, recurses := true, apart := false }
def CellsPlaysSaid : Prop := cellsPlaysRow.holds Try.pinned (OpenSpec.ofChange cellsPlaysSpec)

/-- ITS FALSE NEIGHBOUR: 'it returns false'. Refute it at one input. -/
def cellsPlaysWrong : ChangeSpec := { name := "cellsPlays", fn := fun _ => fun
  | [d1, d2, d3] => { results := [.lit (.bool false)], args := [d1, d2, d3] }
  | _ => none }
def CellsPlaysWrongFalsely : Prop := cellsPlaysRow.holds Try.pinned (OpenSpec.ofChange cellsPlaysWrong)

/- THE SECOND FORM. 'bulk': how many values and letters a reading holds, each counted each time it is reached (what is shared counts as often as it is met; a slice's spare places count too). A statement '..UptoSaid' is the law's where the arguments, and the package variables that the reading takes, are together of bulk at most 1048576: NARROWER than '..Said'. Prove '..Said' where nothing that the law and all that it calls make is longer than what came in: it says more and counts as full. Else prove '..UptoSaid'. A law counts once. -/
mutual
def uptoBulk {H : Type} : DataW H → Nat
  | .lit (.string bytes) => bytes.length + 1
  | .lit _ => 1
  | .nil => 1
  | .ptr d => uptoBulk d + 1
  | .slice elems spare => uptoBulkAll elems + uptoBulkAll spare + 1
  | .agg parts => uptoBulkAll parts + 1
  | .iface _ d => uptoBulk d + 1
  | .map entries => uptoBulkEntries entries + 1
  | .held _ => 1
def uptoBulkAll {H : Type} : List (DataW H) → Nat
  | [] => 0
  | d :: r => uptoBulk d + uptoBulkAll r
def uptoBulkEntries {H : Type} : List (Lit × DataW H) → Nat
  | [] => 0
  | x :: r => uptoBulkEntry x + uptoBulkEntries r
def uptoBulkEntry {H : Type} : Lit × DataW H → Nat
  | (.string bytes, d) => bytes.length + uptoBulk d + 1
  | (_, d) => uptoBulk d + 1
 end
def uptoSmall : (H : Type) → List (DataW H) → Bool := fun _ ds => decide (uptoBulkAll ds ≤ 1048576)
def OpenSpec.upto (s : _root_.Go.ChangeSpec) : _root_.Go.OpenSpec := { _root_.Go.OpenSpec.ofChange s with cond := some uptoSmall }

/-- 'parleylaw01.CellsNames', WHERE WHAT IT READS IS OF BULK AT MOST 1048576: true; the input reads as it did. -/
def cellsNamesUptoRow : OpenClaim := { program := "ythjiiedpplimpaa", sum := "c4a2c11c5538812a739b1e03f762755e48239817ced40249bf43a3be7209042a", func := "parley/parleylaw01.CellsNames", spec := "cellsNames", apart := false, narrowed := true }
def CellsNamesUptoSaid : Prop := cellsNamesUptoRow.holds Try.pinned (OpenSpec.upto cellsNamesSpec)

/-- 'parleylaw06.SeqTurns', WHERE WHAT IT READS IS OF BULK AT MOST 1048576: true; the input reads as it did. -/
def seqTurnsUptoRow : OpenClaim := { program := "ythjiiedpplimpaa", sum := "c4a2c11c5538812a739b1e03f762755e48239817ced40249bf43a3be7209042a", func := "parley/parleylaw06.SeqTurns", spec := "seqTurns", apart := false, narrowed := true }
def SeqTurnsUptoSaid : Prop := seqTurnsUptoRow.holds Try.pinned (OpenSpec.upto seqTurnsSpec)

/-- 'parleylaw06.SeqWords', WHERE WHAT IT READS IS OF BULK AT MOST 1048576: true; the input reads as it did. -/
def seqWordsUptoRow : OpenClaim := { program := "ythjiiedpplimpaa", sum := "c4a2c11c5538812a739b1e03f762755e48239817ced40249bf43a3be7209042a", func := "parley/parleylaw06.SeqWords", spec := "seqWords", apart := false, narrowed := true }
def SeqWordsUptoSaid : Prop := seqWordsUptoRow.holds Try.pinned (OpenSpec.upto seqWordsSpec)

/-- 'parleylaw01.CellsMeanwhile', WHERE WHAT IT READS IS OF BULK AT MOST 1048576: true; the input reads as it did. -/
def cellsMeanwhileUptoRow : OpenClaim := { program := "ythjiiedpplimpaa", sum := "c4a2c11c5538812a739b1e03f762755e48239817ced40249bf43a3be7209042a", func := "parley/parleylaw01.CellsMeanwhile", spec := "cellsMeanwhile", unfollowed := true, recurses := true, apart := false, narrowed := true }
def CellsMeanwhileUptoSaid : Prop := cellsMeanwhileUptoRow.holds Try.pinned (OpenSpec.upto cellsMeanwhileSpec)

/-- 'parleylaw06.SeqPlays', WHERE WHAT IT READS IS OF BULK AT MOST 1048576: true; the input reads as it did. -/
def seqPlaysUptoRow : OpenClaim := { program := "ythjiiedpplimpaa", sum := "c4a2c11c5538812a739b1e03f762755e48239817ced40249bf43a3be7209042a", func := "parley/parleylaw06.SeqPlays", spec := "seqPlays", apart := false, narrowed := true }
def SeqPlaysUptoSaid : Prop := seqPlaysUptoRow.holds Try.pinned (OpenSpec.upto seqPlaysSpec)

/-- 'parleylaw06.SeqNil', WHERE WHAT IT READS IS OF BULK AT MOST 1048576: true; the input reads as it did. -/
def seqNilUptoRow : OpenClaim := { program := "ythjiiedpplimpaa", sum := "c4a2c11c5538812a739b1e03f762755e48239817ced40249bf43a3be7209042a", func := "parley/parleylaw06.SeqNil", spec := "seqNil", apart := false, narrowed := true }
def SeqNilUptoSaid : Prop := seqNilUptoRow.holds Try.pinned (OpenSpec.upto seqNilSpec)

/-- 'parleylaw01.CellsMeans', WHERE WHAT IT READS IS OF BULK AT MOST 1048576: true; the input reads as it did. -/
def cellsMeansUptoRow : OpenClaim := { program := "ythjiiedpplimpaa", sum := "c4a2c11c5538812a739b1e03f762755e48239817ced40249bf43a3be7209042a", func := "parley/parleylaw01.CellsMeans", spec := "cellsMeans", unfollowed := true, recurses := true, apart := false, narrowed := true }
def CellsMeansUptoSaid : Prop := cellsMeansUptoRow.holds Try.pinned (OpenSpec.upto cellsMeansSpec)

/-- 'parleylaw01.CellsNil', WHERE WHAT IT READS IS OF BULK AT MOST 1048576: true; the input reads as it did. -/
def cellsNilUptoRow : OpenClaim := { program := "ythjiiedpplimpaa", sum := "c4a2c11c5538812a739b1e03f762755e48239817ced40249bf43a3be7209042a", func := "parley/parleylaw01.CellsNil", spec := "cellsNil", unfollowed := true, recurses := true, apart := false, narrowed := true }
def CellsNilUptoSaid : Prop := cellsNilUptoRow.holds Try.pinned (OpenSpec.upto cellsNilSpec)

/-- 'parleylaw01.CellsPlays', WHERE WHAT IT READS IS OF BULK AT MOST 1048576: true; the input reads as it did. -/
def cellsPlaysUptoRow : OpenClaim := { program := "ythjiiedpplimpaa", sum := "c4a2c11c5538812a739b1e03f762755e48239817ced40249bf43a3be7209042a", func := "parley/parleylaw01.CellsPlays", spec := "cellsPlays", unfollowed := true, recurses := true, apart := false, narrowed := true }
def CellsPlaysUptoSaid : Prop := cellsPlaysUptoRow.holds Try.pinned (OpenSpec.upto cellsPlaysSpec)

end Rows
end Go.Proofs.Ythjiiedpplimpaa
