/-
  No cell of these rows narrows 'for every input' (looked for: loops, veiled, ifaces, maps, wideKeys, modest, calm, conditions, laid).
  DERIVED. THE GIVEN ROWS OF THIS SEAT. 7 by the template 'for every input the law returns true; each argument reads behind the call as it read before'; 0 by the template 'total and deterministic' (their statements: YtklpghpfdeojeaaTotals.lean).
  GIVEN WITH THE SEED: the statements are not yours to turn. If you find one false, say at which input.
  Laid BY PROGRAM, IN A SANDBOX (cutbox-rows.mjs): the forced cells as the released guide's own fill.sh prints them over the translation f02246a39bc81f92… (all of the seat's roots in one cut). By AI agents, Wed Nov 11 2026. No macro, syntax, notation, axiom, sorry.
-/
import Derived.Test.YtklpghpfdeojeaaChecked
import GoSem.Claim
import GoSem.ClaimJoined
import GoSem.ClaimMapViews
import Derived.JoinedTies
import Derived.KernelRfl
namespace Go.Proofs.Ytklpghpfdeojeaa
/- THE CELL 'sum', in the pinned program and in every row, IS THE sha256 OF THE DUMP (.gsa) THAT YtklpghpfdeojeaaProg.lean LOADS. Nothing in Lean hashes anything: it is a label: what it is worth is what the hold of that sum in a sandbox is worth. -/
noncomputable def Try.pinned : Pinned := { name := "ytklpghpfdeojeaa", sum := "f02246a39bc81f9263a91df551385a5efa8d46a5636675e917a7be60fd5016af", checked := Try.checked }
namespace Rows
def none {H : Type} : Left H := { results := [], args := [] }

/-- 'hornbeamlaw20.StreamsNew': WHATEVER THE INPUT: true; the input reads as it did. -/
def streamsNewSpec : ChangeSpec := { name := "streamsNew", fn := fun _ => fun
  | [d] => { results := [.lit (.bool true)], args := [d] }
  | _ => none }
def streamsNewRow : OpenClaim := { program := "ytklpghpfdeojeaa", sum := "f02246a39bc81f9263a91df551385a5efa8d46a5636675e917a7be60fd5016af", func := "hornbeam/hornbeamlaw20.StreamsNew", spec := "streamsNew", unfollowed := true, recurses := true, apart := false }
def StreamsNewSaid : Prop := streamsNewRow.holds Try.pinned (OpenSpec.ofChange streamsNewSpec)

/-- ITS FALSE NEIGHBOUR: 'it returns false'. Refute it at one input. -/
def streamsNewWrong : ChangeSpec := { name := "streamsNew", fn := fun _ => fun
  | [d] => { results := [.lit (.bool false)], args := [d] }
  | _ => none }
def StreamsNewWrongFalsely : Prop := streamsNewRow.holds Try.pinned (OpenSpec.ofChange streamsNewWrong)

/-- 'hornbeamlaw20.StreamsReads': WHATEVER THE INPUT: true; the input reads as it did. -/
def streamsReadsSpec : ChangeSpec := { name := "streamsReads", fn := fun _ => fun
  | [d1, d2, d3] => { results := [.lit (.bool true)], args := [d1, d2, d3] }
  | _ => none }
def streamsReadsRow : OpenClaim := { program := "ytklpghpfdeojeaa", sum := "f02246a39bc81f9263a91df551385a5efa8d46a5636675e917a7be60fd5016af", func := "hornbeam/hornbeamlaw20.StreamsReads", spec := "streamsReads", unfollowed := true, recurses := true, apart := false }
def StreamsReadsSaid : Prop := streamsReadsRow.holds Try.pinned (OpenSpec.ofChange streamsReadsSpec)

/-- ITS FALSE NEIGHBOUR: 'it returns false'. Refute it at one input. -/
def streamsReadsWrong : ChangeSpec := { name := "streamsReads", fn := fun _ => fun
  | [d1, d2, d3] => { results := [.lit (.bool false)], args := [d1, d2, d3] }
  | _ => none }
def StreamsReadsWrongFalsely : Prop := streamsReadsRow.holds Try.pinned (OpenSpec.ofChange streamsReadsWrong)

/-- 'hornbeamlaw20.StreamsApart': WHATEVER THE INPUT: true; the input reads as it did. -/
def streamsApartSpec : ChangeSpec := { name := "streamsApart", fn := fun _ => fun
  | [d1, d2] => { results := [.lit (.bool true)], args := [d1, d2] }
  | _ => none }
def streamsApartRow : OpenClaim := { program := "ytklpghpfdeojeaa", sum := "f02246a39bc81f9263a91df551385a5efa8d46a5636675e917a7be60fd5016af", func := "hornbeam/hornbeamlaw20.StreamsApart", spec := "streamsApart", unfollowed := true, recurses := true, apart := false }
def StreamsApartSaid : Prop := streamsApartRow.holds Try.pinned (OpenSpec.ofChange streamsApartSpec)

/-- ITS FALSE NEIGHBOUR: 'it returns false'. Refute it at one input. -/
def streamsApartWrong : ChangeSpec := { name := "streamsApart", fn := fun _ => fun
  | [d1, d2] => { results := [.lit (.bool false)], args := [d1, d2] }
  | _ => none }
def StreamsApartWrongFalsely : Prop := streamsApartRow.holds Try.pinned (OpenSpec.ofChange streamsApartWrong)

/-- 'hornbeamlaw20.StreamsCloses': WHATEVER THE INPUT: true; the input reads as it did. -/
def streamsClosesSpec : ChangeSpec := { name := "streamsCloses", fn := fun _ => fun
  | [d1, d2, d3, d4, d5] => { results := [.lit (.bool true)], args := [d1, d2, d3, d4, d5] }
  | _ => none }
def streamsClosesRow : OpenClaim := { program := "ytklpghpfdeojeaa", sum := "f02246a39bc81f9263a91df551385a5efa8d46a5636675e917a7be60fd5016af", func := "hornbeam/hornbeamlaw20.StreamsCloses", spec := "streamsCloses", unfollowed := true, recurses := true, apart := false }
def StreamsClosesSaid : Prop := streamsClosesRow.holds Try.pinned (OpenSpec.ofChange streamsClosesSpec)

/-- ITS FALSE NEIGHBOUR: 'it returns false'. Refute it at one input. -/
def streamsClosesWrong : ChangeSpec := { name := "streamsCloses", fn := fun _ => fun
  | [d1, d2, d3, d4, d5] => { results := [.lit (.bool false)], args := [d1, d2, d3, d4, d5] }
  | _ => none }
def StreamsClosesWrongFalsely : Prop := streamsClosesRow.holds Try.pinned (OpenSpec.ofChange streamsClosesWrong)

/-- 'hornbeamlaw20.StreamsWrites': WHATEVER THE INPUT: true; the input reads as it did. -/
def streamsWritesSpec : ChangeSpec := { name := "streamsWrites", fn := fun _ => fun
  | [d1, d2, d3] => { results := [.lit (.bool true)], args := [d1, d2, d3] }
  | _ => none }
def streamsWritesRow : OpenClaim := { program := "ytklpghpfdeojeaa", sum := "f02246a39bc81f9263a91df551385a5efa8d46a5636675e917a7be60fd5016af", func := "hornbeam/hornbeamlaw20.StreamsWrites", spec := "streamsWrites", unfollowed := true, recurses := true, apart := false }
def StreamsWritesSaid : Prop := streamsWritesRow.holds Try.pinned (OpenSpec.ofChange streamsWritesSpec)

/-- ITS FALSE NEIGHBOUR: 'it returns false'. Refute it at one input. -/
def streamsWritesWrong : ChangeSpec := { name := "streamsWrites", fn := fun _ => fun
  | [d1, d2, d3] => { results := [.lit (.bool false)], args := [d1, d2, d3] }
  | _ => none }
def StreamsWritesWrongFalsely : Prop := streamsWritesRow.holds Try.pinned (OpenSpec.ofChange streamsWritesWrong)

/-- 'hornbeamlaw20.StreamsCalls': WHATEVER THE INPUT: true; the input reads as it did. -/
def streamsCallsSpec : ChangeSpec := { name := "streamsCalls", fn := fun _ => fun
  | [d1, d2] => { results := [.lit (.bool true)], args := [d1, d2] }
  | _ => none }
def streamsCallsRow : OpenClaim := { program := "ytklpghpfdeojeaa", sum := "f02246a39bc81f9263a91df551385a5efa8d46a5636675e917a7be60fd5016af", func := "hornbeam/hornbeamlaw20.StreamsCalls", spec := "streamsCalls", unfollowed := true, recurses := true, apart := false }
def StreamsCallsSaid : Prop := streamsCallsRow.holds Try.pinned (OpenSpec.ofChange streamsCallsSpec)

/-- ITS FALSE NEIGHBOUR: 'it returns false'. Refute it at one input. -/
def streamsCallsWrong : ChangeSpec := { name := "streamsCalls", fn := fun _ => fun
  | [d1, d2] => { results := [.lit (.bool false)], args := [d1, d2] }
  | _ => none }
def StreamsCallsWrongFalsely : Prop := streamsCallsRow.holds Try.pinned (OpenSpec.ofChange streamsCallsWrong)

/-- 'hornbeamlaw20.StreamsScripts': WHATEVER THE INPUT: true; the input reads as it did. -/
def streamsScriptsSpec : ChangeSpec := { name := "streamsScripts", fn := fun _ => fun
  | [d1, d2] => { results := [.lit (.bool true)], args := [d1, d2] }
  | _ => none }
def streamsScriptsRow : OpenClaim := { program := "ytklpghpfdeojeaa", sum := "f02246a39bc81f9263a91df551385a5efa8d46a5636675e917a7be60fd5016af", func := "hornbeam/hornbeamlaw20.StreamsScripts", spec := "streamsScripts", unfollowed := true, recurses := true, apart := false }
def StreamsScriptsSaid : Prop := streamsScriptsRow.holds Try.pinned (OpenSpec.ofChange streamsScriptsSpec)

/-- ITS FALSE NEIGHBOUR: 'it returns false'. Refute it at one input. -/
def streamsScriptsWrong : ChangeSpec := { name := "streamsScripts", fn := fun _ => fun
  | [d1, d2] => { results := [.lit (.bool false)], args := [d1, d2] }
  | _ => none }
def StreamsScriptsWrongFalsely : Prop := streamsScriptsRow.holds Try.pinned (OpenSpec.ofChange streamsScriptsWrong)

/- THE SECOND FORM. 'bulk': how many values and letters a reading holds, each counted each time it is reached (what is shared counts as often as it is met; a slice's spare places count too). A statement '..UptoSaid' is the law's where the arguments, and the package variables that the reading takes, are together of bulk at most 1048576: NARROWER than '..Said'. Prove '..Said' where nothing that the law and all that it calls make is longer than what came in: it says more and counts as full. Else prove '..UptoSaid'. A law counts once. -/
mutual
def uptoBulk {H : Type} : DataW H → Nat
  | .lit (.string bytes) => bytes.length + 1
  | .lit _ => 1
  | .nil => 1
  | .ptr d => uptoBulk d + 1
  | .slice elems spare => uptoBulkAll elems + uptoBulkAll spare + 1
  | .agg parts => uptoBulkAll parts + 1
  | .iface _ d => uptoBulk d + 1
  | .map entries => uptoBulkEntries entries + 1
  | .held _ => 1
def uptoBulkAll {H : Type} : List (DataW H) → Nat
  | [] => 0
  | d :: r => uptoBulk d + uptoBulkAll r
def uptoBulkEntries {H : Type} : List (Lit × DataW H) → Nat
  | [] => 0
  | x :: r => uptoBulkEntry x + uptoBulkEntries r
def uptoBulkEntry {H : Type} : Lit × DataW H → Nat
  | (.string bytes, d) => bytes.length + uptoBulk d + 1
  | (_, d) => uptoBulk d + 1
 end
def uptoSmall : (H : Type) → List (DataW H) → Bool := fun _ ds => decide (uptoBulkAll ds ≤ 1048576)
def OpenSpec.upto (s : _root_.Go.ChangeSpec) : _root_.Go.OpenSpec := { _root_.Go.OpenSpec.ofChange s with cond := some uptoSmall }

/-- 'hornbeamlaw20.StreamsNew', WHERE WHAT IT READS IS OF BULK AT MOST 1048576: true; the input reads as it did. -/
def streamsNewUptoRow : OpenClaim := { program := "ytklpghpfdeojeaa", sum := "f02246a39bc81f9263a91df551385a5efa8d46a5636675e917a7be60fd5016af", func := "hornbeam/hornbeamlaw20.StreamsNew", spec := "streamsNew", unfollowed := true, recurses := true, apart := false, narrowed := true }
def StreamsNewUptoSaid : Prop := streamsNewUptoRow.holds Try.pinned (OpenSpec.upto streamsNewSpec)

/-- 'hornbeamlaw20.StreamsReads', WHERE WHAT IT READS IS OF BULK AT MOST 1048576: true; the input reads as it did. -/
def streamsReadsUptoRow : OpenClaim := { program := "ytklpghpfdeojeaa", sum := "f02246a39bc81f9263a91df551385a5efa8d46a5636675e917a7be60fd5016af", func := "hornbeam/hornbeamlaw20.StreamsReads", spec := "streamsReads", unfollowed := true, recurses := true, apart := false, narrowed := true }
def StreamsReadsUptoSaid : Prop := streamsReadsUptoRow.holds Try.pinned (OpenSpec.upto streamsReadsSpec)

/-- 'hornbeamlaw20.StreamsApart', WHERE WHAT IT READS IS OF BULK AT MOST 1048576: true; the input reads as it did. -/
def streamsApartUptoRow : OpenClaim := { program := "ytklpghpfdeojeaa", sum := "f02246a39bc81f9263a91df551385a5efa8d46a5636675e917a7be60fd5016af", func := "hornbeam/hornbeamlaw20.StreamsApart", spec := "streamsApart", unfollowed := true, recurses := true, apart := false, narrowed := true }
def StreamsApartUptoSaid : Prop := streamsApartUptoRow.holds Try.pinned (OpenSpec.upto streamsApartSpec)

/-- 'hornbeamlaw20.StreamsCloses', WHERE WHAT IT READS IS OF BULK AT MOST 1048576: true; the input reads as it did. -/
def streamsClosesUptoRow : OpenClaim := { program := "ytklpghpfdeojeaa", sum := "f02246a39bc81f9263a91df551385a5efa8d46a5636675e917a7be60fd5016af", func := "hornbeam/hornbeamlaw20.StreamsCloses", spec := "streamsCloses", unfollowed := true, recurses := true, apart := false, narrowed := true }
def StreamsClosesUptoSaid : Prop := streamsClosesUptoRow.holds Try.pinned (OpenSpec.upto streamsClosesSpec)

/-- 'hornbeamlaw20.StreamsWrites', WHERE WHAT IT READS IS OF BULK AT MOST 1048576: true; the input reads as it did. -/
def streamsWritesUptoRow : OpenClaim := { program := "ytklpghpfdeojeaa", sum := "f02246a39bc81f9263a91df551385a5efa8d46a5636675e917a7be60fd5016af", func := "hornbeam/hornbeamlaw20.StreamsWrites", spec := "streamsWrites", unfollowed := true, recurses := true, apart := false, narrowed := true }
def StreamsWritesUptoSaid : Prop := streamsWritesUptoRow.holds Try.pinned (OpenSpec.upto streamsWritesSpec)

/-- 'hornbeamlaw20.StreamsCalls', WHERE WHAT IT READS IS OF BULK AT MOST 1048576: true; the input reads as it did. -/
def streamsCallsUptoRow : OpenClaim := { program := "ytklpghpfdeojeaa", sum := "f02246a39bc81f9263a91df551385a5efa8d46a5636675e917a7be60fd5016af", func := "hornbeam/hornbeamlaw20.StreamsCalls", spec := "streamsCalls", unfollowed := true, recurses := true, apart := false, narrowed := true }
def StreamsCallsUptoSaid : Prop := streamsCallsUptoRow.holds Try.pinned (OpenSpec.upto streamsCallsSpec)

/-- 'hornbeamlaw20.StreamsScripts', WHERE WHAT IT READS IS OF BULK AT MOST 1048576: true; the input reads as it did. -/
def streamsScriptsUptoRow : OpenClaim := { program := "ytklpghpfdeojeaa", sum := "f02246a39bc81f9263a91df551385a5efa8d46a5636675e917a7be60fd5016af", func := "hornbeam/hornbeamlaw20.StreamsScripts", spec := "streamsScripts", unfollowed := true, recurses := true, apart := false, narrowed := true }
def StreamsScriptsUptoSaid : Prop := streamsScriptsUptoRow.holds Try.pinned (OpenSpec.upto streamsScriptsSpec)

end Rows
end Go.Proofs.Ytklpghpfdeojeaa
