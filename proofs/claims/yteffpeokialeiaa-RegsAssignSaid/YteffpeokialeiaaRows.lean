/-
  No cell of these rows narrows 'for every input' (looked for: loops, veiled, ifaces, maps, wideKeys, modest, calm, conditions, laid).
  DERIVED. THE GIVEN ROWS OF THIS SEAT. 7 by the template 'for every input the law returns true; each argument reads behind the call as it read before'; 0 by the template 'total and deterministic' (their statements: YteffpeokialeiaaTotals.lean).
  GIVEN WITH THE SEED: the statements are not yours to turn. If you find one false, say at which input.
  Laid BY PROGRAM, IN A SANDBOX (cutbox-rows.mjs): the forced cells as the released guide's own fill.sh prints them over the translation f25b1ee19ae55418… (all of the seat's roots in one cut). By AI agents, Wed Nov 11 2026. No macro, syntax, notation, axiom, sorry.
-/
import Derived.Test.YteffpeokialeiaaChecked
import GoSem.Claim
import GoSem.ClaimJoined
import GoSem.ClaimMapViews
import Derived.JoinedTies
import Derived.KernelRfl
namespace Go.Proofs.Yteffpeokialeiaa
/- THE CELL 'sum', in the pinned program and in every row, IS THE sha256 OF THE DUMP (.gsa) THAT YteffpeokialeiaaProg.lean LOADS. Nothing in Lean hashes anything: it is a label: what it is worth is what the hold of that sum in a sandbox is worth. -/
noncomputable def Try.pinned : Pinned := { name := "yteffpeokialeiaa", sum := "f25b1ee19ae5541860bb4ae7a9c10253a96a739610f6169668a60838f835aba6", checked := Try.checked }
namespace Rows
def none {H : Type} : Left H := { results := [], args := [] }

/-- 'hornbeamlaw27.RegsExamples': WHATEVER THE INPUT: true; the input reads as it did. -/
def regsExamplesSpec : ChangeSpec := { name := "regsExamples", fn := fun _ => fun
  | [] => { results := [.lit (.bool true)], args := [] }
  | _ => none }
def regsExamplesRow : OpenClaim := { program := "yteffpeokialeiaa", sum := "f25b1ee19ae5541860bb4ae7a9c10253a96a739610f6169668a60838f835aba6", func := "hornbeam/hornbeamlaw27.RegsExamples", spec := "regsExamples", unfollowed := true, recurses := true, apart := false }
def RegsExamplesSaid : Prop := regsExamplesRow.holds Try.pinned (OpenSpec.ofChange regsExamplesSpec)

/-- ITS FALSE NEIGHBOUR: 'it returns false'. Refute it at one input. -/
def regsExamplesWrong : ChangeSpec := { name := "regsExamples", fn := fun _ => fun
  | [] => { results := [.lit (.bool false)], args := [] }
  | _ => none }
def RegsExamplesWrongFalsely : Prop := regsExamplesRow.holds Try.pinned (OpenSpec.ofChange regsExamplesWrong)

/-- 'hornbeamlaw27.RegsAssign': WHATEVER THE INPUT: true; the input reads as it did. -/
def regsAssignSpec : ChangeSpec := { name := "regsAssign", fn := fun _ => fun
  | [d1, d2] => { results := [.lit (.bool true)], args := [d1, d2] }
  | _ => none }
def regsAssignRow : OpenClaim := { program := "yteffpeokialeiaa", sum := "f25b1ee19ae5541860bb4ae7a9c10253a96a739610f6169668a60838f835aba6", func := "hornbeam/hornbeamlaw27.RegsAssign", spec := "regsAssign", unfollowed := true, recurses := true, apart := false }
def RegsAssignSaid : Prop := regsAssignRow.holds Try.pinned (OpenSpec.ofChange regsAssignSpec)

/-- ITS FALSE NEIGHBOUR: 'it returns false'. Refute it at one input. -/
def regsAssignWrong : ChangeSpec := { name := "regsAssign", fn := fun _ => fun
  | [d1, d2] => { results := [.lit (.bool false)], args := [d1, d2] }
  | _ => none }
def RegsAssignWrongFalsely : Prop := regsAssignRow.holds Try.pinned (OpenSpec.ofChange regsAssignWrong)

/-- 'hornbeamlaw27.RegsFlow': WHATEVER THE INPUT: true; the input reads as it did. -/
def regsFlowSpec : ChangeSpec := { name := "regsFlow", fn := fun _ => fun
  | [d1, d2] => { results := [.lit (.bool true)], args := [d1, d2] }
  | _ => none }
def regsFlowRow : OpenClaim := { program := "yteffpeokialeiaa", sum := "f25b1ee19ae5541860bb4ae7a9c10253a96a739610f6169668a60838f835aba6", func := "hornbeam/hornbeamlaw27.RegsFlow", spec := "regsFlow", unfollowed := true, recurses := true, apart := false }
def RegsFlowSaid : Prop := regsFlowRow.holds Try.pinned (OpenSpec.ofChange regsFlowSpec)

/-- ITS FALSE NEIGHBOUR: 'it returns false'. Refute it at one input. -/
def regsFlowWrong : ChangeSpec := { name := "regsFlow", fn := fun _ => fun
  | [d1, d2] => { results := [.lit (.bool false)], args := [d1, d2] }
  | _ => none }
def RegsFlowWrongFalsely : Prop := regsFlowRow.holds Try.pinned (OpenSpec.ofChange regsFlowWrong)

/-- 'hornbeamlaw27.RegsRest': WHATEVER THE INPUT: true; the input reads as it did. -/
def regsRestSpec : ChangeSpec := { name := "regsRest", fn := fun _ => fun
  | [d1, d2] => { results := [.lit (.bool true)], args := [d1, d2] }
  | _ => none }
def regsRestRow : OpenClaim := { program := "yteffpeokialeiaa", sum := "f25b1ee19ae5541860bb4ae7a9c10253a96a739610f6169668a60838f835aba6", func := "hornbeam/hornbeamlaw27.RegsRest", spec := "regsRest", unfollowed := true, recurses := true, apart := false }
def RegsRestSaid : Prop := regsRestRow.holds Try.pinned (OpenSpec.ofChange regsRestSpec)

/-- ITS FALSE NEIGHBOUR: 'it returns false'. Refute it at one input. -/
def regsRestWrong : ChangeSpec := { name := "regsRest", fn := fun _ => fun
  | [d1, d2] => { results := [.lit (.bool false)], args := [d1, d2] }
  | _ => none }
def RegsRestWrongFalsely : Prop := regsRestRow.holds Try.pinned (OpenSpec.ofChange regsRestWrong)

/-- 'hornbeamlaw27.RegsLeast': WHATEVER THE INPUT: true; the input reads as it did. -/
def regsLeastSpec : ChangeSpec := { name := "regsLeast", fn := fun _ => fun
  | [d1, d2] => { results := [.lit (.bool true)], args := [d1, d2] }
  | _ => none }
def regsLeastRow : OpenClaim := { program := "yteffpeokialeiaa", sum := "f25b1ee19ae5541860bb4ae7a9c10253a96a739610f6169668a60838f835aba6", func := "hornbeam/hornbeamlaw27.RegsLeast", spec := "regsLeast", unfollowed := true, recurses := true, apart := false }
def RegsLeastSaid : Prop := regsLeastRow.holds Try.pinned (OpenSpec.ofChange regsLeastSpec)

/-- ITS FALSE NEIGHBOUR: 'it returns false'. Refute it at one input. -/
def regsLeastWrong : ChangeSpec := { name := "regsLeast", fn := fun _ => fun
  | [d1, d2] => { results := [.lit (.bool false)], args := [d1, d2] }
  | _ => none }
def RegsLeastWrongFalsely : Prop := regsLeastRow.holds Try.pinned (OpenSpec.ofChange regsLeastWrong)

/-- 'hornbeamlaw27.RegsAgain': WHATEVER THE INPUT: true; the input reads as it did. -/
def regsAgainSpec : ChangeSpec := { name := "regsAgain", fn := fun _ => fun
  | [d1, d2] => { results := [.lit (.bool true)], args := [d1, d2] }
  | _ => none }
def regsAgainRow : OpenClaim := { program := "yteffpeokialeiaa", sum := "f25b1ee19ae5541860bb4ae7a9c10253a96a739610f6169668a60838f835aba6", func := "hornbeam/hornbeamlaw27.RegsAgain", spec := "regsAgain", unfollowed := true, recurses := true, apart := false }
def RegsAgainSaid : Prop := regsAgainRow.holds Try.pinned (OpenSpec.ofChange regsAgainSpec)

/-- ITS FALSE NEIGHBOUR: 'it returns false'. Refute it at one input. -/
def regsAgainWrong : ChangeSpec := { name := "regsAgain", fn := fun _ => fun
  | [d1, d2] => { results := [.lit (.bool false)], args := [d1, d2] }
  | _ => none }
def RegsAgainWrongFalsely : Prop := regsAgainRow.holds Try.pinned (OpenSpec.ofChange regsAgainWrong)

/-- 'hornbeamlaw27.RegsShift': WHATEVER THE INPUT: true; the input reads as it did. -/
def regsShiftSpec : ChangeSpec := { name := "regsShift", fn := fun _ => fun
  | [d1, d2, d3] => { results := [.lit (.bool true)], args := [d1, d2, d3] }
  | _ => none }
def regsShiftRow : OpenClaim := { program := "yteffpeokialeiaa", sum := "f25b1ee19ae5541860bb4ae7a9c10253a96a739610f6169668a60838f835aba6", func := "hornbeam/hornbeamlaw27.RegsShift", spec := "regsShift", unfollowed := true, recurses := true, apart := false }
def RegsShiftSaid : Prop := regsShiftRow.holds Try.pinned (OpenSpec.ofChange regsShiftSpec)

/-- ITS FALSE NEIGHBOUR: 'it returns false'. Refute it at one input. -/
def regsShiftWrong : ChangeSpec := { name := "regsShift", fn := fun _ => fun
  | [d1, d2, d3] => { results := [.lit (.bool false)], args := [d1, d2, d3] }
  | _ => none }
def RegsShiftWrongFalsely : Prop := regsShiftRow.holds Try.pinned (OpenSpec.ofChange regsShiftWrong)

/- THE SECOND FORM. 'bulk': how many values and letters a reading holds, each counted each time it is reached (what is shared counts as often as it is met; a slice's spare places count too). A statement '..UptoSaid' is the law's where the arguments, and the package variables that the reading takes, are together of bulk at most 1048576: NARROWER than '..Said'. Prove '..Said' where nothing that the law and all that it calls make is longer than what came in: it says more and counts as full. Else prove '..UptoSaid'. A law counts once. -/
mutual
def uptoBulk {H : Type} : DataW H → Nat
  | .lit (.string bytes) => bytes.length + 1
  | .lit _ => 1
  | .nil => 1
  | .ptr d => uptoBulk d + 1
  | .slice elems spare => uptoBulkAll elems + uptoBulkAll spare + 1
  | .agg parts => uptoBulkAll parts + 1
  | .iface _ d => uptoBulk d + 1
  | .map entries => uptoBulkEntries entries + 1
  | .held _ => 1
def uptoBulkAll {H : Type} : List (DataW H) → Nat
  | [] => 0
  | d :: r => uptoBulk d + uptoBulkAll r
def uptoBulkEntries {H : Type} : List (Lit × DataW H) → Nat
  | [] => 0
  | x :: r => uptoBulkEntry x + uptoBulkEntries r
def uptoBulkEntry {H : Type} : Lit × DataW H → Nat
  | (.string bytes, d) => bytes.length + uptoBulk d + 1
  | (_, d) => uptoBulk d + 1
 end
def uptoSmall : (H : Type) → List (DataW H) → Bool := fun _ ds => decide (uptoBulkAll ds ≤ 1048576)
def OpenSpec.upto (s : _root_.Go.ChangeSpec) : _root_.Go.OpenSpec := { _root_.Go.OpenSpec.ofChange s with cond := some uptoSmall }

/-- 'hornbeamlaw27.RegsExamples', WHERE WHAT IT READS IS OF BULK AT MOST 1048576: true; the input reads as it did. -/
def regsExamplesUptoRow : OpenClaim := { program := "yteffpeokialeiaa", sum := "f25b1ee19ae5541860bb4ae7a9c10253a96a739610f6169668a60838f835aba6", func := "hornbeam/hornbeamlaw27.RegsExamples", spec := "regsExamples", unfollowed := true, recurses := true, apart := false, narrowed := true }
def RegsExamplesUptoSaid : Prop := regsExamplesUptoRow.holds Try.pinned (OpenSpec.upto regsExamplesSpec)

/-- 'hornbeamlaw27.RegsAssign', WHERE WHAT IT READS IS OF BULK AT MOST 1048576: true; the input reads as it did. -/
def regsAssignUptoRow : OpenClaim := { program := "yteffpeokialeiaa", sum := "f25b1ee19ae5541860bb4ae7a9c10253a96a739610f6169668a60838f835aba6", func := "hornbeam/hornbeamlaw27.RegsAssign", spec := "regsAssign", unfollowed := true, recurses := true, apart := false, narrowed := true }
def RegsAssignUptoSaid : Prop := regsAssignUptoRow.holds Try.pinned (OpenSpec.upto regsAssignSpec)

/-- 'hornbeamlaw27.RegsFlow', WHERE WHAT IT READS IS OF BULK AT MOST 1048576: true; the input reads as it did. -/
def regsFlowUptoRow : OpenClaim := { program := "yteffpeokialeiaa", sum := "f25b1ee19ae5541860bb4ae7a9c10253a96a739610f6169668a60838f835aba6", func := "hornbeam/hornbeamlaw27.RegsFlow", spec := "regsFlow", unfollowed := true, recurses := true, apart := false, narrowed := true }
def RegsFlowUptoSaid : Prop := regsFlowUptoRow.holds Try.pinned (OpenSpec.upto regsFlowSpec)

/-- 'hornbeamlaw27.RegsRest', WHERE WHAT IT READS IS OF BULK AT MOST 1048576: true; the input reads as it did. -/
def regsRestUptoRow : OpenClaim := { program := "yteffpeokialeiaa", sum := "f25b1ee19ae5541860bb4ae7a9c10253a96a739610f6169668a60838f835aba6", func := "hornbeam/hornbeamlaw27.RegsRest", spec := "regsRest", unfollowed := true, recurses := true, apart := false, narrowed := true }
def RegsRestUptoSaid : Prop := regsRestUptoRow.holds Try.pinned (OpenSpec.upto regsRestSpec)

/-- 'hornbeamlaw27.RegsLeast', WHERE WHAT IT READS IS OF BULK AT MOST 1048576: true; the input reads as it did. -/
def regsLeastUptoRow : OpenClaim := { program := "yteffpeokialeiaa", sum := "f25b1ee19ae5541860bb4ae7a9c10253a96a739610f6169668a60838f835aba6", func := "hornbeam/hornbeamlaw27.RegsLeast", spec := "regsLeast", unfollowed := true, recurses := true, apart := false, narrowed := true }
def RegsLeastUptoSaid : Prop := regsLeastUptoRow.holds Try.pinned (OpenSpec.upto regsLeastSpec)

/-- 'hornbeamlaw27.RegsAgain', WHERE WHAT IT READS IS OF BULK AT MOST 1048576: true; the input reads as it did. -/
def regsAgainUptoRow : OpenClaim := { program := "yteffpeokialeiaa", sum := "f25b1ee19ae5541860bb4ae7a9c10253a96a739610f6169668a60838f835aba6", func := "hornbeam/hornbeamlaw27.RegsAgain", spec := "regsAgain", unfollowed := true, recurses := true, apart := false, narrowed := true }
def RegsAgainUptoSaid : Prop := regsAgainUptoRow.holds Try.pinned (OpenSpec.upto regsAgainSpec)

/-- 'hornbeamlaw27.RegsShift', WHERE WHAT IT READS IS OF BULK AT MOST 1048576: true; the input reads as it did. -/
def regsShiftUptoRow : OpenClaim := { program := "yteffpeokialeiaa", sum := "f25b1ee19ae5541860bb4ae7a9c10253a96a739610f6169668a60838f835aba6", func := "hornbeam/hornbeamlaw27.RegsShift", spec := "regsShift", unfollowed := true, recurses := true, apart := false, narrowed := true }
def RegsShiftUptoSaid : Prop := regsShiftUptoRow.holds Try.pinned (OpenSpec.upto regsShiftSpec)

end Rows
end Go.Proofs.Yteffpeokialeiaa
