/-
  NARROWER THAN 'FOR EVERY INPUT', by the rows' own cells (each row's printed sentence says how): ArithEvals: loops · ArithCalls: loops · ArithFunctions: loops.
  DERIVED. THE GIVEN ROWS OF THIS SEAT. 3 by the template 'for every input the law returns true; each argument reads behind the call as it read before'; 0 by the template 'total and deterministic' (their statements: YtcagaaacfcpoeaaGreatTotals.lean).
  GIVEN WITH THE SEED: the statements are not yours to turn. If you find one false, say at which input.
  Laid BY PROGRAM, IN A SANDBOX (cutbox-rows.mjs): the forced cells as the released guide's own fill.sh prints them over the translation 7af27dc3a5970f39… (all of the seat's roots in one cut). By AI agents, Wed Nov 11 2026. No macro, syntax, notation, axiom, sorry.
-/
import Derived.Test.YtcagaaacfcpoeaaGreatChecked
import GoSem.Claim
import GoSem.ClaimJoined
import GoSem.ClaimMapViews
import Derived.JoinedTies
import Derived.KernelRfl
namespace Go.Proofs.YtcagaaacfcpoeaaGreat
/- THE CELL 'sum', in the pinned program and in every row, IS THE sha256 OF THE DUMP (.gsa) THAT YtcagaaacfcpoeaaGreatProg.lean LOADS. Nothing in Lean hashes anything: it is a label: what it is worth is what the hold of that sum in a sandbox is worth. -/
noncomputable def Tryz.pinned : Pinned := { name := "ytcagaaacfcpoeaagreat", sum := "7af27dc3a5970f397f7eda5b6f2168697e9aba5e6a983046ea7eb0a0f27ab5e6", checked := Tryz.checked }
namespace Rows
def none {H : Type} : Left H := { results := [], args := [] }

/-- 'hornbeamlaw13.ArithEvals': WHATEVER THE INPUT: true; the input reads as it did. -/
def arithEvalsSpec : ChangeSpec := { name := "arithEvals", fn := fun _ => fun
  | [d] => { results := [.lit (.bool true)], args := [d] }
  | _ => none }
def arithEvalsRow : OpenClaim := { program := "ytcagaaacfcpoeaagreat", sum := "7af27dc3a5970f397f7eda5b6f2168697e9aba5e6a983046ea7eb0a0f27ab5e6", func := "hornbeam/hornbeamlaw13.ArithEvals", spec := "arithEvals", unfollowed := true, recurses := true, loops := true, apart := false }
def ArithEvalsSaid : Prop := arithEvalsRow.holds Tryz.pinned (OpenSpec.ofChange arithEvalsSpec)

/-- ITS FALSE NEIGHBOUR: 'it returns false'. Refute it at one input. -/
def arithEvalsWrong : ChangeSpec := { name := "arithEvals", fn := fun _ => fun
  | [d] => { results := [.lit (.bool false)], args := [d] }
  | _ => none }
def ArithEvalsWrongFalsely : Prop := arithEvalsRow.holds Tryz.pinned (OpenSpec.ofChange arithEvalsWrong)

/-- 'hornbeamlaw13.ArithCalls': WHATEVER THE INPUT: true; the input reads as it did. -/
def arithCallsSpec : ChangeSpec := { name := "arithCalls", fn := fun _ => fun
  | [d1, d2, d3] => { results := [.lit (.bool true)], args := [d1, d2, d3] }
  | _ => none }
def arithCallsRow : OpenClaim := { program := "ytcagaaacfcpoeaagreat", sum := "7af27dc3a5970f397f7eda5b6f2168697e9aba5e6a983046ea7eb0a0f27ab5e6", func := "hornbeam/hornbeamlaw13.ArithCalls", spec := "arithCalls", unfollowed := true, recurses := true, loops := true, apart := false }
def ArithCallsSaid : Prop := arithCallsRow.holds Tryz.pinned (OpenSpec.ofChange arithCallsSpec)

/-- ITS FALSE NEIGHBOUR: 'it returns false'. Refute it at one input. -/
def arithCallsWrong : ChangeSpec := { name := "arithCalls", fn := fun _ => fun
  | [d1, d2, d3] => { results := [.lit (.bool false)], args := [d1, d2, d3] }
  | _ => none }
def ArithCallsWrongFalsely : Prop := arithCallsRow.holds Tryz.pinned (OpenSpec.ofChange arithCallsWrong)

/-- 'hornbeamlaw13.ArithFunctions': WHATEVER THE INPUT: true; the input reads as it did. -/
def arithFunctionsSpec : ChangeSpec := { name := "arithFunctions", fn := fun _ => fun
  | [d1, d2, d3] => { results := [.lit (.bool true)], args := [d1, d2, d3] }
  | _ => none }
def arithFunctionsRow : OpenClaim := { program := "ytcagaaacfcpoeaagreat", sum := "7af27dc3a5970f397f7eda5b6f2168697e9aba5e6a983046ea7eb0a0f27ab5e6", func := "hornbeam/hornbeamlaw13.ArithFunctions", spec := "arithFunctions", unfollowed := true, recurses := true, loops := true, apart := false }
def ArithFunctionsSaid : Prop := arithFunctionsRow.holds Tryz.pinned (OpenSpec.ofChange arithFunctionsSpec)

/-- ITS FALSE NEIGHBOUR: 'it returns false'. Refute it at one input. -/
def arithFunctionsWrong : ChangeSpec := { name := "arithFunctions", fn := fun _ => fun
  | [d1, d2, d3] => { results := [.lit (.bool false)], args := [d1, d2, d3] }
  | _ => none }
def ArithFunctionsWrongFalsely : Prop := arithFunctionsRow.holds Tryz.pinned (OpenSpec.ofChange arithFunctionsWrong)

/- THE SECOND FORM. 'bulk': how many values and letters a reading holds, each counted each time it is reached (what is shared counts as often as it is met; a slice's spare places count too). A statement '..UptoSaid' is the law's where the arguments, and the package variables that the reading takes, are together of bulk at most 1048576: NARROWER than '..Said'. Prove '..Said' where nothing that the law and all that it calls make is longer than what came in: it says more and counts as full. Else prove '..UptoSaid'. A law counts once. -/
mutual
def uptoBulk {H : Type} : DataW H → Nat
  | .lit (.string bytes) => bytes.length + 1
  | .lit _ => 1
  | .nil => 1
  | .ptr d => uptoBulk d + 1
  | .slice elems spare => uptoBulkAll elems + uptoBulkAll spare + 1
  | .agg parts => uptoBulkAll parts + 1
  | .iface _ d => uptoBulk d + 1
  | .map entries => uptoBulkEntries entries + 1
  | .held _ => 1
def uptoBulkAll {H : Type} : List (DataW H) → Nat
  | [] => 0
  | d :: r => uptoBulk d + uptoBulkAll r
def uptoBulkEntries {H : Type} : List (Lit × DataW H) → Nat
  | [] => 0
  | x :: r => uptoBulkEntry x + uptoBulkEntries r
def uptoBulkEntry {H : Type} : Lit × DataW H → Nat
  | (.string bytes, d) => bytes.length + uptoBulk d + 1
  | (_, d) => uptoBulk d + 1
 end
def uptoSmall : (H : Type) → List (DataW H) → Bool := fun _ ds => decide (uptoBulkAll ds ≤ 1048576)
def OpenSpec.upto (s : _root_.Go.ChangeSpec) : _root_.Go.OpenSpec := { _root_.Go.OpenSpec.ofChange s with cond := some uptoSmall }

/-- 'hornbeamlaw13.ArithEvals', WHERE WHAT IT READS IS OF BULK AT MOST 1048576: true; the input reads as it did. -/
def arithEvalsUptoRow : OpenClaim := { program := "ytcagaaacfcpoeaagreat", sum := "7af27dc3a5970f397f7eda5b6f2168697e9aba5e6a983046ea7eb0a0f27ab5e6", func := "hornbeam/hornbeamlaw13.ArithEvals", spec := "arithEvals", unfollowed := true, recurses := true, loops := true, apart := false, narrowed := true }
def ArithEvalsUptoSaid : Prop := arithEvalsUptoRow.holds Tryz.pinned (OpenSpec.upto arithEvalsSpec)

/-- 'hornbeamlaw13.ArithCalls', WHERE WHAT IT READS IS OF BULK AT MOST 1048576: true; the input reads as it did. -/
def arithCallsUptoRow : OpenClaim := { program := "ytcagaaacfcpoeaagreat", sum := "7af27dc3a5970f397f7eda5b6f2168697e9aba5e6a983046ea7eb0a0f27ab5e6", func := "hornbeam/hornbeamlaw13.ArithCalls", spec := "arithCalls", unfollowed := true, recurses := true, loops := true, apart := false, narrowed := true }
def ArithCallsUptoSaid : Prop := arithCallsUptoRow.holds Tryz.pinned (OpenSpec.upto arithCallsSpec)

/-- 'hornbeamlaw13.ArithFunctions', WHERE WHAT IT READS IS OF BULK AT MOST 1048576: true; the input reads as it did. -/
def arithFunctionsUptoRow : OpenClaim := { program := "ytcagaaacfcpoeaagreat", sum := "7af27dc3a5970f397f7eda5b6f2168697e9aba5e6a983046ea7eb0a0f27ab5e6", func := "hornbeam/hornbeamlaw13.ArithFunctions", spec := "arithFunctions", unfollowed := true, recurses := true, loops := true, apart := false, narrowed := true }
def ArithFunctionsUptoSaid : Prop := arithFunctionsUptoRow.holds Tryz.pinned (OpenSpec.upto arithFunctionsSpec)

end Rows
end Go.Proofs.YtcagaaacfcpoeaaGreat
