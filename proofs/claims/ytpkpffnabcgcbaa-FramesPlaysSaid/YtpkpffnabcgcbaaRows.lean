/-
  No cell of these rows narrows 'for every input' (looked for: loops, veiled, ifaces, maps, wideKeys, modest, calm, conditions, laid).
  DERIVED. THE GIVEN ROWS OF THIS SEAT. 5 by the template 'for every input the law returns true; each argument reads behind the call as it read before'; 0 by the template 'total and deterministic' (their statements: YtpkpffnabcgcbaaTotals.lean).
  GIVEN WITH THE SEED: the statements are not yours to turn. If you find one false, say at which input.
  Laid BY PROGRAM, IN A SANDBOX (cutbox-rows.mjs): the forced cells as the released guide's own fill.sh prints them over the translation 011f8bff369cf2e8… (all of the seat's roots in one cut). By AI agents, Wed Nov 11 2026. No macro, syntax, notation, axiom, sorry.
-/
import Derived.Test.YtpkpffnabcgcbaaChecked
import GoSem.Claim
import GoSem.ClaimJoined
import GoSem.ClaimMapViews
import Derived.JoinedTies
import Derived.KernelRfl
namespace Go.Proofs.Ytpkpffnabcgcbaa
/- THE CELL 'sum', in the pinned program and in every row, IS THE sha256 OF THE DUMP (.gsa) THAT YtpkpffnabcgcbaaProg.lean LOADS. Nothing in Lean hashes anything: it is a label: what it is worth is what the hold of that sum in a sandbox is worth. -/
noncomputable def Try.pinned : Pinned := { name := "ytpkpffnabcgcbaa", sum := "011f8bff369cf2e8f9d5f805548e51b773b4ab5482cdf402136d89625d376f03", checked := Try.checked }
namespace Rows
def none {H : Type} : Left H := { results := [], args := [] }

/-- 'hornbeamlaw35.FramesBack': WHATEVER THE INPUT: true; the input reads as it did. -/
def framesBackSpec : ChangeSpec := { name := "framesBack", fn := fun _ => fun
  | [d1, d2, d3] => { results := [.lit (.bool true)], args := [d1, d2, d3] }
  | _ => none }
def framesBackRow : OpenClaim := { program := "ytpkpffnabcgcbaa", sum := "011f8bff369cf2e8f9d5f805548e51b773b4ab5482cdf402136d89625d376f03", func := "hornbeam/hornbeamlaw35.FramesBack", spec := "framesBack", apart := false }
def FramesBackSaid : Prop := framesBackRow.holds Try.pinned (OpenSpec.ofChange framesBackSpec)

/-- ITS FALSE NEIGHBOUR: 'it returns false'. Refute it at one input. -/
def framesBackWrong : ChangeSpec := { name := "framesBack", fn := fun _ => fun
  | [d1, d2, d3] => { results := [.lit (.bool false)], args := [d1, d2, d3] }
  | _ => none }
def FramesBackWrongFalsely : Prop := framesBackRow.holds Try.pinned (OpenSpec.ofChange framesBackWrong)

/-- 'hornbeamlaw35.FramesViews': WHATEVER THE INPUT: true; the input reads as it did. -/
def framesViewsSpec : ChangeSpec := { name := "framesViews", fn := fun _ => fun
  | [d1, d2] => { results := [.lit (.bool true)], args := [d1, d2] }
  | _ => none }
def framesViewsRow : OpenClaim := { program := "ytpkpffnabcgcbaa", sum := "011f8bff369cf2e8f9d5f805548e51b773b4ab5482cdf402136d89625d376f03", func := "hornbeam/hornbeamlaw35.FramesViews", spec := "framesViews", apart := false }
def FramesViewsSaid : Prop := framesViewsRow.holds Try.pinned (OpenSpec.ofChange framesViewsSpec)

/-- ITS FALSE NEIGHBOUR: 'it returns false'. Refute it at one input. -/
def framesViewsWrong : ChangeSpec := { name := "framesViews", fn := fun _ => fun
  | [d1, d2] => { results := [.lit (.bool false)], args := [d1, d2] }
  | _ => none }
def FramesViewsWrongFalsely : Prop := framesViewsRow.holds Try.pinned (OpenSpec.ofChange framesViewsWrong)

/-- 'hornbeamlaw35.FramesRoots': WHATEVER THE INPUT: true; the input reads as it did. -/
def framesRootsSpec : ChangeSpec := { name := "framesRoots", fn := fun _ => fun
  | [d1, d2, d3, d4] => { results := [.lit (.bool true)], args := [d1, d2, d3, d4] }
  | _ => none }
def framesRootsRow : OpenClaim := { program := "ytpkpffnabcgcbaa", sum := "011f8bff369cf2e8f9d5f805548e51b773b4ab5482cdf402136d89625d376f03", func := "hornbeam/hornbeamlaw35.FramesRoots", spec := "framesRoots", unfollowed := true, recurses := true, apart := false }
def FramesRootsSaid : Prop := framesRootsRow.holds Try.pinned (OpenSpec.ofChange framesRootsSpec)

/-- ITS FALSE NEIGHBOUR: 'it returns false'. Refute it at one input. -/
def framesRootsWrong : ChangeSpec := { name := "framesRoots", fn := fun _ => fun
  | [d1, d2, d3, d4] => { results := [.lit (.bool false)], args := [d1, d2, d3, d4] }
  | _ => none }
def FramesRootsWrongFalsely : Prop := framesRootsRow.holds Try.pinned (OpenSpec.ofChange framesRootsWrong)

/-- 'hornbeamlaw35.FramesPlays': WHATEVER THE INPUT: true; the input reads as it did. -/
def framesPlaysSpec : ChangeSpec := { name := "framesPlays", fn := fun _ => fun
  | [d1, d2] => { results := [.lit (.bool true)], args := [d1, d2] }
  | _ => none }
def framesPlaysRow : OpenClaim := { program := "ytpkpffnabcgcbaa", sum := "011f8bff369cf2e8f9d5f805548e51b773b4ab5482cdf402136d89625d376f03", func := "hornbeam/hornbeamlaw35.FramesPlays", spec := "framesPlays", apart := false }
def FramesPlaysSaid : Prop := framesPlaysRow.holds Try.pinned (OpenSpec.ofChange framesPlaysSpec)

/-- ITS FALSE NEIGHBOUR: 'it returns false'. Refute it at one input. -/
def framesPlaysWrong : ChangeSpec := { name := "framesPlays", fn := fun _ => fun
  | [d1, d2] => { results := [.lit (.bool false)], args := [d1, d2] }
  | _ => none }
def FramesPlaysWrongFalsely : Prop := framesPlaysRow.holds Try.pinned (OpenSpec.ofChange framesPlaysWrong)

/-- 'hornbeamlaw35.FramesKnown': WHATEVER THE INPUT: true; the input reads as it did. -/
def framesKnownSpec : ChangeSpec := { name := "framesKnown", fn := fun _ => fun
  | [] => { results := [.lit (.bool true)], args := [] }
  | _ => none }
def framesKnownRow : OpenClaim := { program := "ytpkpffnabcgcbaa", sum := "011f8bff369cf2e8f9d5f805548e51b773b4ab5482cdf402136d89625d376f03", func := "hornbeam/hornbeamlaw35.FramesKnown", spec := "framesKnown", apart := false }
def FramesKnownSaid : Prop := framesKnownRow.holds Try.pinned (OpenSpec.ofChange framesKnownSpec)

/-- ITS FALSE NEIGHBOUR: 'it returns false'. Refute it at one input. -/
def framesKnownWrong : ChangeSpec := { name := "framesKnown", fn := fun _ => fun
  | [] => { results := [.lit (.bool false)], args := [] }
  | _ => none }
def FramesKnownWrongFalsely : Prop := framesKnownRow.holds Try.pinned (OpenSpec.ofChange framesKnownWrong)

/- THE SECOND FORM. 'bulk': how many values and letters a reading holds, each counted each time it is reached (what is shared counts as often as it is met; a slice's spare places count too). A statement '..UptoSaid' is the law's where the arguments, and the package variables that the reading takes, are together of bulk at most 1048576: NARROWER than '..Said'. Prove '..Said' where nothing that the law and all that it calls make is longer than what came in: it says more and counts as full. Else prove '..UptoSaid'. A law counts once. -/
mutual
def uptoBulk {H : Type} : DataW H → Nat
  | .lit (.string bytes) => bytes.length + 1
  | .lit _ => 1
  | .nil => 1
  | .ptr d => uptoBulk d + 1
  | .slice elems spare => uptoBulkAll elems + uptoBulkAll spare + 1
  | .agg parts => uptoBulkAll parts + 1
  | .iface _ d => uptoBulk d + 1
  | .map entries => uptoBulkEntries entries + 1
  | .held _ => 1
def uptoBulkAll {H : Type} : List (DataW H) → Nat
  | [] => 0
  | d :: r => uptoBulk d + uptoBulkAll r
def uptoBulkEntries {H : Type} : List (Lit × DataW H) → Nat
  | [] => 0
  | x :: r => uptoBulkEntry x + uptoBulkEntries r
def uptoBulkEntry {H : Type} : Lit × DataW H → Nat
  | (.string bytes, d) => bytes.length + uptoBulk d + 1
  | (_, d) => uptoBulk d + 1
 end
def uptoSmall : (H : Type) → List (DataW H) → Bool := fun _ ds => decide (uptoBulkAll ds ≤ 1048576)
def OpenSpec.upto (s : _root_.Go.ChangeSpec) : _root_.Go.OpenSpec := { _root_.Go.OpenSpec.ofChange s with cond := some uptoSmall }

/-- 'hornbeamlaw35.FramesBack', WHERE WHAT IT READS IS OF BULK AT MOST 1048576: true; the input reads as it did. -/
def framesBackUptoRow : OpenClaim := { program := "ytpkpffnabcgcbaa", sum := "011f8bff369cf2e8f9d5f805548e51b773b4ab5482cdf402136d89625d376f03", func := "hornbeam/hornbeamlaw35.FramesBack", spec := "framesBack", apart := false, narrowed := true }
def FramesBackUptoSaid : Prop := framesBackUptoRow.holds Try.pinned (OpenSpec.upto framesBackSpec)

/-- 'hornbeamlaw35.FramesViews', WHERE WHAT IT READS IS OF BULK AT MOST 1048576: true; the input reads as it did. -/
def framesViewsUptoRow : OpenClaim := { program := "ytpkpffnabcgcbaa", sum := "011f8bff369cf2e8f9d5f805548e51b773b4ab5482cdf402136d89625d376f03", func := "hornbeam/hornbeamlaw35.FramesViews", spec := "framesViews", apart := false, narrowed := true }
def FramesViewsUptoSaid : Prop := framesViewsUptoRow.holds Try.pinned (OpenSpec.upto framesViewsSpec)

/-- 'hornbeamlaw35.FramesRoots', WHERE WHAT IT READS IS OF BULK AT MOST 1048576: true; the input reads as it did. -/
def framesRootsUptoRow : OpenClaim := { program := "ytpkpffnabcgcbaa", sum := "011f8bff369cf2e8f9d5f805548e51b773b4ab5482cdf402136d89625d376f03", func := "hornbeam/hornbeamlaw35.FramesRoots", spec := "framesRoots", unfollowed := true, recurses := true, apart := false, narrowed := true }
def FramesRootsUptoSaid : Prop := framesRootsUptoRow.holds Try.pinned (OpenSpec.upto framesRootsSpec)

/-- 'hornbeamlaw35.FramesPlays', WHERE WHAT IT READS IS OF BULK AT MOST 1048576: true; the input reads as it did. -/
def framesPlaysUptoRow : OpenClaim := { program := "ytpkpffnabcgcbaa", sum := "011f8bff369cf2e8f9d5f805548e51b773b4ab5482cdf402136d89625d376f03", func := "hornbeam/hornbeamlaw35.FramesPlays", spec := "framesPlays", apart := false, narrowed := true }
def FramesPlaysUptoSaid : Prop := framesPlaysUptoRow.holds Try.pinned (OpenSpec.upto framesPlaysSpec)

/-- 'hornbeamlaw35.FramesKnown', WHERE WHAT IT READS IS OF BULK AT MOST 1048576: true; the input reads as it did. -/
def framesKnownUptoRow : OpenClaim := { program := "ytpkpffnabcgcbaa", sum := "011f8bff369cf2e8f9d5f805548e51b773b4ab5482cdf402136d89625d376f03", func := "hornbeam/hornbeamlaw35.FramesKnown", spec := "framesKnown", apart := false, narrowed := true }
def FramesKnownUptoSaid : Prop := framesKnownUptoRow.holds Try.pinned (OpenSpec.upto framesKnownSpec)

end Rows
end Go.Proofs.Ytpkpffnabcgcbaa
