/-
  No cell of these rows narrows 'for every input' (looked for: loops, veiled, ifaces, maps, wideKeys, modest, calm, conditions, laid).
  DERIVED. THE GIVEN ROWS OF THIS SEAT. 7 by the template 'for every input the law returns true; each argument reads behind the call as it read before'; 0 by the template 'total and deterministic' (their statements: YthfeljongackcaaTotals.lean).
  GIVEN WITH THE SEED: the statements are not yours to turn. If you find one false, say at which input.
  Laid BY PROGRAM, IN A SANDBOX (cutbox-rows.mjs): the forced cells as the released guide's own fill.sh prints them over the translation 79bf4865c29f31cb… (all of the seat's roots in one cut). By AI agents, Wed Nov 11 2026. No macro, syntax, notation, axiom, sorry.
-/
import Derived.Test.YthfeljongackcaaChecked
import GoSem.Claim
import GoSem.ClaimJoined
import GoSem.ClaimMapViews
import Derived.JoinedTies
import Derived.KernelRfl
namespace Go.Proofs.Ythfeljongackcaa
/- THE CELL 'sum', in the pinned program and in every row, IS THE sha256 OF THE DUMP (.gsa) THAT YthfeljongackcaaProg.lean LOADS. Nothing in Lean hashes anything: it is a label: what it is worth is what the hold of that sum in a sandbox is worth. -/
noncomputable def Try.pinned : Pinned := { name := "ythfeljongackcaa", sum := "79bf4865c29f31cbb42876f59ab50a155912064dd8e3c932501f333372e5c192", checked := Try.checked }
namespace Rows
def none {H : Type} : Left H := { results := [], args := [] }

/-- 'parleylaw07.AttemptFull': WHATEVER THE INPUT: true; the input reads as it did. -/
def attemptFullSpec : ChangeSpec := { name := "attemptFull", fn := fun _ => fun
  | [] => { results := [.lit (.bool true)], args := [] }
  | _ => none }
def attemptFullRow : OpenClaim := { program := "ythfeljongackcaa", sum := "79bf4865c29f31cbb42876f59ab50a155912064dd8e3c932501f333372e5c192", func := "parley/parleylaw07.AttemptFull", spec := "attemptFull", unfollowed := true, recurses := true, apart := false }
def AttemptFullSaid : Prop := attemptFullRow.holds Try.pinned (OpenSpec.ofChange attemptFullSpec)

/-- ITS FALSE NEIGHBOUR: 'it returns false'. Refute it at one input. -/
def attemptFullWrong : ChangeSpec := { name := "attemptFull", fn := fun _ => fun
  | [] => { results := [.lit (.bool false)], args := [] }
  | _ => none }
def AttemptFullWrongFalsely : Prop := attemptFullRow.holds Try.pinned (OpenSpec.ofChange attemptFullWrong)

/-- 'parleylaw07.AttemptNames': WHATEVER THE INPUT: true; the input reads as it did. -/
def attemptNamesSpec : ChangeSpec := { name := "attemptNames", fn := fun _ => fun
  | [] => { results := [.lit (.bool true)], args := [] }
  | _ => none }
def attemptNamesRow : OpenClaim := { program := "ythfeljongackcaa", sum := "79bf4865c29f31cbb42876f59ab50a155912064dd8e3c932501f333372e5c192", func := "parley/parleylaw07.AttemptNames", spec := "attemptNames", unfollowed := true, recurses := true, apart := false }
def AttemptNamesSaid : Prop := attemptNamesRow.holds Try.pinned (OpenSpec.ofChange attemptNamesSpec)

/-- ITS FALSE NEIGHBOUR: 'it returns false'. Refute it at one input. -/
def attemptNamesWrong : ChangeSpec := { name := "attemptNames", fn := fun _ => fun
  | [] => { results := [.lit (.bool false)], args := [] }
  | _ => none }
def AttemptNamesWrongFalsely : Prop := attemptNamesRow.holds Try.pinned (OpenSpec.ofChange attemptNamesWrong)

/-- 'parleylaw07.AttemptAlone': WHATEVER THE INPUT: true; the input reads as it did. -/
def attemptAloneSpec : ChangeSpec := { name := "attemptAlone", fn := fun _ => fun
  | [d1, d2, d3] => { results := [.lit (.bool true)], args := [d1, d2, d3] }
  | _ => none }
def attemptAloneRow : OpenClaim := { program := "ythfeljongackcaa", sum := "79bf4865c29f31cbb42876f59ab50a155912064dd8e3c932501f333372e5c192", func := "parley/parleylaw07.AttemptAlone", spec := "attemptAlone", unfollowed := true, recurses := true, apart := false }
def AttemptAloneSaid : Prop := attemptAloneRow.holds Try.pinned (OpenSpec.ofChange attemptAloneSpec)

/-- ITS FALSE NEIGHBOUR: 'it returns false'. Refute it at one input. -/
def attemptAloneWrong : ChangeSpec := { name := "attemptAlone", fn := fun _ => fun
  | [d1, d2, d3] => { results := [.lit (.bool false)], args := [d1, d2, d3] }
  | _ => none }
def AttemptAloneWrongFalsely : Prop := attemptAloneRow.holds Try.pinned (OpenSpec.ofChange attemptAloneWrong)

/-- 'parleylaw07.AttemptNil': WHATEVER THE INPUT: true; the input reads as it did. -/
def attemptNilSpec : ChangeSpec := { name := "attemptNil", fn := fun _ => fun
  | [] => { results := [.lit (.bool true)], args := [] }
  | _ => none }
def attemptNilRow : OpenClaim := { program := "ythfeljongackcaa", sum := "79bf4865c29f31cbb42876f59ab50a155912064dd8e3c932501f333372e5c192", func := "parley/parleylaw07.AttemptNil", spec := "attemptNil", unfollowed := true, recurses := true, apart := false }
def AttemptNilSaid : Prop := attemptNilRow.holds Try.pinned (OpenSpec.ofChange attemptNilSpec)

/-- ITS FALSE NEIGHBOUR: 'it returns false'. Refute it at one input. -/
def attemptNilWrong : ChangeSpec := { name := "attemptNil", fn := fun _ => fun
  | [] => { results := [.lit (.bool false)], args := [] }
  | _ => none }
def AttemptNilWrongFalsely : Prop := attemptNilRow.holds Try.pinned (OpenSpec.ofChange attemptNilWrong)

/-- 'parleylaw07.AttemptPlays': WHATEVER THE INPUT: true; the input reads as it did. -/
def attemptPlaysSpec : ChangeSpec := { name := "attemptPlays", fn := fun _ => fun
  | [d1, d2, d3] => { results := [.lit (.bool true)], args := [d1, d2, d3] }
  | _ => none }
def attemptPlaysRow : OpenClaim := { program := "ythfeljongackcaa", sum := "79bf4865c29f31cbb42876f59ab50a155912064dd8e3c932501f333372e5c192", func := "parley/parleylaw07.AttemptPlays", spec := "attemptPlays", unfollowed := true, recurses := true, apart := false }
def AttemptPlaysSaid : Prop := attemptPlaysRow.holds Try.pinned (OpenSpec.ofChange attemptPlaysSpec)

/-- ITS FALSE NEIGHBOUR: 'it returns false'. Refute it at one input. -/
def attemptPlaysWrong : ChangeSpec := { name := "attemptPlays", fn := fun _ => fun
  | [d1, d2, d3] => { results := [.lit (.bool false)], args := [d1, d2, d3] }
  | _ => none }
def AttemptPlaysWrongFalsely : Prop := attemptPlaysRow.holds Try.pinned (OpenSpec.ofChange attemptPlaysWrong)

/-- 'parleylaw07.AttemptFrom': WHATEVER THE INPUT: true; the input reads as it did. -/
def attemptFromSpec : ChangeSpec := { name := "attemptFrom", fn := fun _ => fun
  | [d1, d2, d3, d4] => { results := [.lit (.bool true)], args := [d1, d2, d3, d4] }
  | _ => none }
def attemptFromRow : OpenClaim := { program := "ythfeljongackcaa", sum := "79bf4865c29f31cbb42876f59ab50a155912064dd8e3c932501f333372e5c192", func := "parley/parleylaw07.AttemptFrom", spec := "attemptFrom", unfollowed := true, recurses := true, apart := false }
def AttemptFromSaid : Prop := attemptFromRow.holds Try.pinned (OpenSpec.ofChange attemptFromSpec)

/-- ITS FALSE NEIGHBOUR: 'it returns false'. Refute it at one input. -/
def attemptFromWrong : ChangeSpec := { name := "attemptFrom", fn := fun _ => fun
  | [d1, d2, d3, d4] => { results := [.lit (.bool false)], args := [d1, d2, d3, d4] }
  | _ => none }
def AttemptFromWrongFalsely : Prop := attemptFromRow.holds Try.pinned (OpenSpec.ofChange attemptFromWrong)

/-- 'parleylaw11.ThreadAlone': WHATEVER THE INPUT: true; the input reads as it did. -/
def threadAloneSpec : ChangeSpec := { name := "threadAlone", fn := fun _ => fun
  | [d1, d2] => { results := [.lit (.bool true)], args := [d1, d2] }
  | _ => none }
def threadAloneRow : OpenClaim := { program := "ythfeljongackcaa", sum := "79bf4865c29f31cbb42876f59ab50a155912064dd8e3c932501f333372e5c192", func := "parley/parleylaw11.ThreadAlone", spec := "threadAlone", unfollowed := true, recurses := true, apart := false }
def ThreadAloneSaid : Prop := threadAloneRow.holds Try.pinned (OpenSpec.ofChange threadAloneSpec)

/-- ITS FALSE NEIGHBOUR: 'it returns false'. Refute it at one input. -/
def threadAloneWrong : ChangeSpec := { name := "threadAlone", fn := fun _ => fun
  | [d1, d2] => { results := [.lit (.bool false)], args := [d1, d2] }
  | _ => none }
def ThreadAloneWrongFalsely : Prop := threadAloneRow.holds Try.pinned (OpenSpec.ofChange threadAloneWrong)

/- THE SECOND FORM. 'bulk': how many values and letters a reading holds, each counted each time it is reached (what is shared counts as often as it is met; a slice's spare places count too). A statement '..UptoSaid' is the law's where the arguments, and the package variables that the reading takes, are together of bulk at most 1048576: NARROWER than '..Said'. Prove '..Said' where nothing that the law and all that it calls make is longer than what came in: it says more and counts as full. Else prove '..UptoSaid'. A law counts once. -/
mutual
def uptoBulk {H : Type} : DataW H → Nat
  | .lit (.string bytes) => bytes.length + 1
  | .lit _ => 1
  | .nil => 1
  | .ptr d => uptoBulk d + 1
  | .slice elems spare => uptoBulkAll elems + uptoBulkAll spare + 1
  | .agg parts => uptoBulkAll parts + 1
  | .iface _ d => uptoBulk d + 1
  | .map entries => uptoBulkEntries entries + 1
  | .held _ => 1
def uptoBulkAll {H : Type} : List (DataW H) → Nat
  | [] => 0
  | d :: r => uptoBulk d + uptoBulkAll r
def uptoBulkEntries {H : Type} : List (Lit × DataW H) → Nat
  | [] => 0
  | x :: r => uptoBulkEntry x + uptoBulkEntries r
def uptoBulkEntry {H : Type} : Lit × DataW H → Nat
  | (.string bytes, d) => bytes.length + uptoBulk d + 1
  | (_, d) => uptoBulk d + 1
 end
def uptoSmall : (H : Type) → List (DataW H) → Bool := fun _ ds => decide (uptoBulkAll ds ≤ 1048576)
def OpenSpec.upto (s : _root_.Go.ChangeSpec) : _root_.Go.OpenSpec := { _root_.Go.OpenSpec.ofChange s with cond := some uptoSmall }

/-- 'parleylaw07.AttemptFull', WHERE WHAT IT READS IS OF BULK AT MOST 1048576: true; the input reads as it did. -/
def attemptFullUptoRow : OpenClaim := { program := "ythfeljongackcaa", sum := "79bf4865c29f31cbb42876f59ab50a155912064dd8e3c932501f333372e5c192", func := "parley/parleylaw07.AttemptFull", spec := "attemptFull", unfollowed := true, recurses := true, apart := false, narrowed := true }
def AttemptFullUptoSaid : Prop := attemptFullUptoRow.holds Try.pinned (OpenSpec.upto attemptFullSpec)

/-- 'parleylaw07.AttemptNames', WHERE WHAT IT READS IS OF BULK AT MOST 1048576: true; the input reads as it did. -/
def attemptNamesUptoRow : OpenClaim := { program := "ythfeljongackcaa", sum := "79bf4865c29f31cbb42876f59ab50a155912064dd8e3c932501f333372e5c192", func := "parley/parleylaw07.AttemptNames", spec := "attemptNames", unfollowed := true, recurses := true, apart := false, narrowed := true }
def AttemptNamesUptoSaid : Prop := attemptNamesUptoRow.holds Try.pinned (OpenSpec.upto attemptNamesSpec)

/-- 'parleylaw07.AttemptAlone', WHERE WHAT IT READS IS OF BULK AT MOST 1048576: true; the input reads as it did. -/
def attemptAloneUptoRow : OpenClaim := { program := "ythfeljongackcaa", sum := "79bf4865c29f31cbb42876f59ab50a155912064dd8e3c932501f333372e5c192", func := "parley/parleylaw07.AttemptAlone", spec := "attemptAlone", unfollowed := true, recurses := true, apart := false, narrowed := true }
def AttemptAloneUptoSaid : Prop := attemptAloneUptoRow.holds Try.pinned (OpenSpec.upto attemptAloneSpec)

/-- 'parleylaw07.AttemptNil', WHERE WHAT IT READS IS OF BULK AT MOST 1048576: true; the input reads as it did. -/
def attemptNilUptoRow : OpenClaim := { program := "ythfeljongackcaa", sum := "79bf4865c29f31cbb42876f59ab50a155912064dd8e3c932501f333372e5c192", func := "parley/parleylaw07.AttemptNil", spec := "attemptNil", unfollowed := true, recurses := true, apart := false, narrowed := true }
def AttemptNilUptoSaid : Prop := attemptNilUptoRow.holds Try.pinned (OpenSpec.upto attemptNilSpec)

/-- 'parleylaw07.AttemptPlays', WHERE WHAT IT READS IS OF BULK AT MOST 1048576: true; the input reads as it did. -/
def attemptPlaysUptoRow : OpenClaim := { program := "ythfeljongackcaa", sum := "79bf4865c29f31cbb42876f59ab50a155912064dd8e3c932501f333372e5c192", func := "parley/parleylaw07.AttemptPlays", spec := "attemptPlays", unfollowed := true, recurses := true, apart := false, narrowed := true }
def AttemptPlaysUptoSaid : Prop := attemptPlaysUptoRow.holds Try.pinned (OpenSpec.upto attemptPlaysSpec)

/-- 'parleylaw07.AttemptFrom', WHERE WHAT IT READS IS OF BULK AT MOST 1048576: true; the input reads as it did. -/
def attemptFromUptoRow : OpenClaim := { program := "ythfeljongackcaa", sum := "79bf4865c29f31cbb42876f59ab50a155912064dd8e3c932501f333372e5c192", func := "parley/parleylaw07.AttemptFrom", spec := "attemptFrom", unfollowed := true, recurses := true, apart := false, narrowed := true }
def AttemptFromUptoSaid : Prop := attemptFromUptoRow.holds Try.pinned (OpenSpec.upto attemptFromSpec)

/-- 'parleylaw11.ThreadAlone', WHERE WHAT IT READS IS OF BULK AT MOST 1048576: true; the input reads as it did. -/
def threadAloneUptoRow : OpenClaim := { program := "ythfeljongackcaa", sum := "79bf4865c29f31cbb42876f59ab50a155912064dd8e3c932501f333372e5c192", func := "parley/parleylaw11.ThreadAlone", spec := "threadAlone", unfollowed := true, recurses := true, apart := false, narrowed := true }
def ThreadAloneUptoSaid : Prop := threadAloneUptoRow.holds Try.pinned (OpenSpec.upto threadAloneSpec)

end Rows
end Go.Proofs.Ythfeljongackcaa
