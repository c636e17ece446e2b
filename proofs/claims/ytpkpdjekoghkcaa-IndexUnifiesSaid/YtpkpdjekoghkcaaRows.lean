/-
  NARROWER THAN 'FOR EVERY INPUT', by the rows' own cells (each row's printed sentence says how): IndexKeys: loops · IndexUnifies: loops · IndexVariants: loops.
  DERIVED. THE GIVEN ROWS OF THIS SEAT. 8 by the template 'for every input the law returns true; each argument reads behind the call as it read before'; 0 by the template 'total and deterministic' (their statements: YtpkpdjekoghkcaaTotals.lean).
  GIVEN WITH THE SEED: the statements are not yours to turn. If you find one false, say at which input.
  Laid BY PROGRAM, IN A SANDBOX (cutbox-rows.mjs): the forced cells as the released guide's own fill.sh prints them over the translation a68fac6476802822… (all of the seat's roots in one cut). By AI agents, Wed Nov 11 2026. No macro, syntax, notation, axiom, sorry.
-/
import Derived.Test.YtpkpdjekoghkcaaChecked
import GoSem.Claim
import GoSem.ClaimJoined
import GoSem.ClaimMapViews
import Derived.JoinedTies
import Derived.KernelRfl
namespace Go.Proofs.Ytpkpdjekoghkcaa
/- THE CELL 'sum', in the pinned program and in every row, IS THE sha256 OF THE DUMP (.gsa) THAT YtpkpdjekoghkcaaProg.lean LOADS. Nothing in Lean hashes anything: it is a label: what it is worth is what the hold of that sum in a sandbox is worth. -/
noncomputable def Try.pinned : Pinned := { name := "ytpkpdjekoghkcaa", sum := "a68fac64768028221908099031268819606b06bd173928356447c47953452e5c", checked := Try.checked }
namespace Rows
def none {H : Type} : Left H := { results := [], args := [] }

/-- 'hornbeamlaw29.IndexBuilds': WHATEVER THE INPUT: true; the input reads as it did. -/
def indexBuildsSpec : ChangeSpec := { name := "indexBuilds", fn := fun _ => fun
  | [d] => { results := [.lit (.bool true)], args := [d] }
  | _ => none }
def indexBuildsRow : OpenClaim := { program := "ytpkpdjekoghkcaa", sum := "a68fac64768028221908099031268819606b06bd173928356447c47953452e5c", func := "hornbeam/hornbeamlaw29.IndexBuilds", spec := "indexBuilds", unfollowed := true, recurses := true, plainKeys := false, apart := false }
def IndexBuildsSaid : Prop := indexBuildsRow.holds Try.pinned (OpenSpec.ofChange indexBuildsSpec)

/-- ITS FALSE NEIGHBOUR: 'it returns false'. Refute it at one input. -/
def indexBuildsWrong : ChangeSpec := { name := "indexBuilds", fn := fun _ => fun
  | [d] => { results := [.lit (.bool false)], args := [d] }
  | _ => none }
def IndexBuildsWrongFalsely : Prop := indexBuildsRow.holds Try.pinned (OpenSpec.ofChange indexBuildsWrong)

/-- 'hornbeamlaw29.IndexSelects': WHATEVER THE INPUT: true; the input reads as it did. -/
def indexSelectsSpec : ChangeSpec := { name := "indexSelects", fn := fun _ => fun
  | [d1, d2] => { results := [.lit (.bool true)], args := [d1, d2] }
  | _ => none }
def indexSelectsRow : OpenClaim := { program := "ytpkpdjekoghkcaa", sum := "a68fac64768028221908099031268819606b06bd173928356447c47953452e5c", func := "hornbeam/hornbeamlaw29.IndexSelects", spec := "indexSelects", unfollowed := true, recurses := true, plainKeys := false, apart := false }
def IndexSelectsSaid : Prop := indexSelectsRow.holds Try.pinned (OpenSpec.ofChange indexSelectsSpec)

/-- ITS FALSE NEIGHBOUR: 'it returns false'. Refute it at one input. -/
def indexSelectsWrong : ChangeSpec := { name := "indexSelects", fn := fun _ => fun
  | [d1, d2] => { results := [.lit (.bool false)], args := [d1, d2] }
  | _ => none }
def IndexSelectsWrongFalsely : Prop := indexSelectsRow.holds Try.pinned (OpenSpec.ofChange indexSelectsWrong)

/-- 'hornbeamlaw29.IndexSkips': WHATEVER THE INPUT: true; the input reads as it did. -/
def indexSkipsSpec : ChangeSpec := { name := "indexSkips", fn := fun _ => fun
  | [d1, d2] => { results := [.lit (.bool true)], args := [d1, d2] }
  | _ => none }
def indexSkipsRow : OpenClaim := { program := "ytpkpdjekoghkcaa", sum := "a68fac64768028221908099031268819606b06bd173928356447c47953452e5c", func := "hornbeam/hornbeamlaw29.IndexSkips", spec := "indexSkips", unfollowed := true, recurses := true, plainKeys := false, apart := false }
def IndexSkipsSaid : Prop := indexSkipsRow.holds Try.pinned (OpenSpec.ofChange indexSkipsSpec)

/-- ITS FALSE NEIGHBOUR: 'it returns false'. Refute it at one input. -/
def indexSkipsWrong : ChangeSpec := { name := "indexSkips", fn := fun _ => fun
  | [d1, d2] => { results := [.lit (.bool false)], args := [d1, d2] }
  | _ => none }
def IndexSkipsWrongFalsely : Prop := indexSkipsRow.holds Try.pinned (OpenSpec.ofChange indexSkipsWrong)

/-- 'hornbeamlaw29.IndexAppends': WHATEVER THE INPUT: true; the input reads as it did. -/
def indexAppendsSpec : ChangeSpec := { name := "indexAppends", fn := fun _ => fun
  | [d1, d2, d3] => { results := [.lit (.bool true)], args := [d1, d2, d3] }
  | _ => none }
def indexAppendsRow : OpenClaim := { program := "ytpkpdjekoghkcaa", sum := "a68fac64768028221908099031268819606b06bd173928356447c47953452e5c", func := "hornbeam/hornbeamlaw29.IndexAppends", spec := "indexAppends", unfollowed := true, recurses := true, plainKeys := false, apart := false }
def IndexAppendsSaid : Prop := indexAppendsRow.holds Try.pinned (OpenSpec.ofChange indexAppendsSpec)

/-- ITS FALSE NEIGHBOUR: 'it returns false'. Refute it at one input. -/
def indexAppendsWrong : ChangeSpec := { name := "indexAppends", fn := fun _ => fun
  | [d1, d2, d3] => { results := [.lit (.bool false)], args := [d1, d2, d3] }
  | _ => none }
def IndexAppendsWrongFalsely : Prop := indexAppendsRow.holds Try.pinned (OpenSpec.ofChange indexAppendsWrong)

/-- 'hornbeamlaw29.IndexExclusive': WHATEVER THE INPUT: true; the input reads as it did. -/
def indexExclusiveSpec : ChangeSpec := { name := "indexExclusive", fn := fun _ => fun
  | [d] => { results := [.lit (.bool true)], args := [d] }
  | _ => none }
def indexExclusiveRow : OpenClaim := { program := "ytpkpdjekoghkcaa", sum := "a68fac64768028221908099031268819606b06bd173928356447c47953452e5c", func := "hornbeam/hornbeamlaw29.IndexExclusive", spec := "indexExclusive", unfollowed := true, recurses := true, plainKeys := false, apart := false }
def IndexExclusiveSaid : Prop := indexExclusiveRow.holds Try.pinned (OpenSpec.ofChange indexExclusiveSpec)

/-- ITS FALSE NEIGHBOUR: 'it returns false'. Refute it at one input. -/
def indexExclusiveWrong : ChangeSpec := { name := "indexExclusive", fn := fun _ => fun
  | [d] => { results := [.lit (.bool false)], args := [d] }
  | _ => none }
def IndexExclusiveWrongFalsely : Prop := indexExclusiveRow.holds Try.pinned (OpenSpec.ofChange indexExclusiveWrong)

/-- 'hornbeamlaw29.IndexKeys': WHATEVER THE INPUT: true; the input reads as it did. -/
def indexKeysSpec : ChangeSpec := { name := "indexKeys", fn := fun _ => fun
  | [d] => { results := [.lit (.bool true)], args := [d] }
  | _ => none }
def indexKeysRow : OpenClaim := { program := "ytpkpdjekoghkcaa", sum := "a68fac64768028221908099031268819606b06bd173928356447c47953452e5c", func := "hornbeam/hornbeamlaw29.IndexKeys", spec := "indexKeys", unfollowed := true, recurses := true, loops := true, plainKeys := false, apart := false }
def IndexKeysSaid : Prop := indexKeysRow.holds Try.pinned (OpenSpec.ofChange indexKeysSpec)

/-- ITS FALSE NEIGHBOUR: 'it returns false'. Refute it at one input. -/
def indexKeysWrong : ChangeSpec := { name := "indexKeys", fn := fun _ => fun
  | [d] => { results := [.lit (.bool false)], args := [d] }
  | _ => none }
def IndexKeysWrongFalsely : Prop := indexKeysRow.holds Try.pinned (OpenSpec.ofChange indexKeysWrong)

/-- 'hornbeamlaw29.IndexUnifies': WHATEVER THE INPUT: true; the input reads as it did. -/
def indexUnifiesSpec : ChangeSpec := { name := "indexUnifies", fn := fun _ => fun
  | [d1, d2] => { results := [.lit (.bool true)], args := [d1, d2] }
  | _ => none }
def indexUnifiesRow : OpenClaim := { program := "ytpkpdjekoghkcaa", sum := "a68fac64768028221908099031268819606b06bd173928356447c47953452e5c", func := "hornbeam/hornbeamlaw29.IndexUnifies", spec := "indexUnifies", unfollowed := true, recurses := true, loops := true, plainKeys := false, apart := false }
def IndexUnifiesSaid : Prop := indexUnifiesRow.holds Try.pinned (OpenSpec.ofChange indexUnifiesSpec)

/-- ITS FALSE NEIGHBOUR: 'it returns false'. Refute it at one input. -/
def indexUnifiesWrong : ChangeSpec := { name := "indexUnifies", fn := fun _ => fun
  | [d1, d2] => { results := [.lit (.bool false)], args := [d1, d2] }
  | _ => none }
def IndexUnifiesWrongFalsely : Prop := indexUnifiesRow.holds Try.pinned (OpenSpec.ofChange indexUnifiesWrong)

/-- 'hornbeamlaw29.IndexVariants': WHATEVER THE INPUT: true; the input reads as it did. -/
def indexVariantsSpec : ChangeSpec := { name := "indexVariants", fn := fun _ => fun
  | [d1, d2] => { results := [.lit (.bool true)], args := [d1, d2] }
  | _ => none }
def indexVariantsRow : OpenClaim := { program := "ytpkpdjekoghkcaa", sum := "a68fac64768028221908099031268819606b06bd173928356447c47953452e5c", func := "hornbeam/hornbeamlaw29.IndexVariants", spec := "indexVariants", unfollowed := true, recurses := true, loops := true, plainKeys := false, apart := false }
def IndexVariantsSaid : Prop := indexVariantsRow.holds Try.pinned (OpenSpec.ofChange indexVariantsSpec)

/-- ITS FALSE NEIGHBOUR: 'it returns false'. Refute it at one input. -/
def indexVariantsWrong : ChangeSpec := { name := "indexVariants", fn := fun _ => fun
  | [d1, d2] => { results := [.lit (.bool false)], args := [d1, d2] }
  | _ => none }
def IndexVariantsWrongFalsely : Prop := indexVariantsRow.holds Try.pinned (OpenSpec.ofChange indexVariantsWrong)

/- THE SECOND FORM. 'bulk': how many values and letters a reading holds, each counted each time it is reached (what is shared counts as often as it is met; a slice's spare places count too). A statement '..UptoSaid' is the law's where the arguments, and the package variables that the reading takes, are together of bulk at most 1048576: NARROWER than '..Said'. Prove '..Said' where nothing that the law and all that it calls make is longer than what came in: it says more and counts as full. Else prove '..UptoSaid'. A law counts once. -/
mutual
def uptoBulk {H : Type} : DataW H → Nat
  | .lit (.string bytes) => bytes.length + 1
  | .lit _ => 1
  | .nil => 1
  | .ptr d => uptoBulk d + 1
  | .slice elems spare => uptoBulkAll elems + uptoBulkAll spare + 1
  | .agg parts => uptoBulkAll parts + 1
  | .iface _ d => uptoBulk d + 1
  | .map entries => uptoBulkEntries entries + 1
  | .held _ => 1
def uptoBulkAll {H : Type} : List (DataW H) → Nat
  | [] => 0
  | d :: r => uptoBulk d + uptoBulkAll r
def uptoBulkEntries {H : Type} : List (Lit × DataW H) → Nat
  | [] => 0
  | x :: r => uptoBulkEntry x + uptoBulkEntries r
def uptoBulkEntry {H : Type} : Lit × DataW H → Nat
  | (.string bytes, d) => bytes.length + uptoBulk d + 1
  | (_, d) => uptoBulk d + 1
 end
def uptoSmall : (H : Type) → List (DataW H) → Bool := fun _ ds => decide (uptoBulkAll ds ≤ 1048576)
def OpenSpec.upto (s : _root_.Go.ChangeSpec) : _root_.Go.OpenSpec := { _root_.Go.OpenSpec.ofChange s with cond := some uptoSmall }

/-- 'hornbeamlaw29.IndexBuilds', WHERE WHAT IT READS IS OF BULK AT MOST 1048576: true; the input reads as it did. -/
def indexBuildsUptoRow : OpenClaim := { program := "ytpkpdjekoghkcaa", sum := "a68fac64768028221908099031268819606b06bd173928356447c47953452e5c", func := "hornbeam/hornbeamlaw29.IndexBuilds", spec := "indexBuilds", unfollowed := true, recurses := true, plainKeys := false, apart := false, narrowed := true }
def IndexBuildsUptoSaid : Prop := indexBuildsUptoRow.holds Try.pinned (OpenSpec.upto indexBuildsSpec)

/-- 'hornbeamlaw29.IndexSelects', WHERE WHAT IT READS IS OF BULK AT MOST 1048576: true; the input reads as it did. -/
def indexSelectsUptoRow : OpenClaim := { program := "ytpkpdjekoghkcaa", sum := "a68fac64768028221908099031268819606b06bd173928356447c47953452e5c", func := "hornbeam/hornbeamlaw29.IndexSelects", spec := "indexSelects", unfollowed := true, recurses := true, plainKeys := false, apart := false, narrowed := true }
def IndexSelectsUptoSaid : Prop := indexSelectsUptoRow.holds Try.pinned (OpenSpec.upto indexSelectsSpec)

/-- 'hornbeamlaw29.IndexSkips', WHERE WHAT IT READS IS OF BULK AT MOST 1048576: true; the input reads as it did. -/
def indexSkipsUptoRow : OpenClaim := { program := "ytpkpdjekoghkcaa", sum := "a68fac64768028221908099031268819606b06bd173928356447c47953452e5c", func := "hornbeam/hornbeamlaw29.IndexSkips", spec := "indexSkips", unfollowed := true, recurses := true, plainKeys := false, apart := false, narrowed := true }
def IndexSkipsUptoSaid : Prop := indexSkipsUptoRow.holds Try.pinned (OpenSpec.upto indexSkipsSpec)

/-- 'hornbeamlaw29.IndexAppends', WHERE WHAT IT READS IS OF BULK AT MOST 1048576: true; the input reads as it did. -/
def indexAppendsUptoRow : OpenClaim := { program := "ytpkpdjekoghkcaa", sum := "a68fac64768028221908099031268819606b06bd173928356447c47953452e5c", func := "hornbeam/hornbeamlaw29.IndexAppends", spec := "indexAppends", unfollowed := true, recurses := true, plainKeys := false, apart := false, narrowed := true }
def IndexAppendsUptoSaid : Prop := indexAppendsUptoRow.holds Try.pinned (OpenSpec.upto indexAppendsSpec)

/-- 'hornbeamlaw29.IndexExclusive', WHERE WHAT IT READS IS OF BULK AT MOST 1048576: true; the input reads as it did. -/
def indexExclusiveUptoRow : OpenClaim := { program := "ytpkpdjekoghkcaa", sum := "a68fac64768028221908099031268819606b06bd173928356447c47953452e5c", func := "hornbeam/hornbeamlaw29.IndexExclusive", spec := "indexExclusive", unfollowed := true, recurses := true, plainKeys := false, apart := false, narrowed := true }
def IndexExclusiveUptoSaid : Prop := indexExclusiveUptoRow.holds Try.pinned (OpenSpec.upto indexExclusiveSpec)

/-- 'hornbeamlaw29.IndexKeys', WHERE WHAT IT READS IS OF BULK AT MOST 1048576: true; the input reads as it did. -/
def indexKeysUptoRow : OpenClaim := { program := "ytpkpdjekoghkcaa", sum := "a68fac64768028221908099031268819606b06bd173928356447c47953452e5c", func := "hornbeam/hornbeamlaw29.IndexKeys", spec := "indexKeys", unfollowed := true, recurses := true, loops := true, plainKeys := false, apart := false, narrowed := true }
def IndexKeysUptoSaid : Prop := indexKeysUptoRow.holds Try.pinned (OpenSpec.upto indexKeysSpec)

/-- 'hornbeamlaw29.IndexUnifies', WHERE WHAT IT READS IS OF BULK AT MOST 1048576: true; the input reads as it did. -/
def indexUnifiesUptoRow : OpenClaim := { program := "ytpkpdjekoghkcaa", sum := "a68fac64768028221908099031268819606b06bd173928356447c47953452e5c", func := "hornbeam/hornbeamlaw29.IndexUnifies", spec := "indexUnifies", unfollowed := true, recurses := true, loops := true, plainKeys := false, apart := false, narrowed := true }
def IndexUnifiesUptoSaid : Prop := indexUnifiesUptoRow.holds Try.pinned (OpenSpec.upto indexUnifiesSpec)

/-- 'hornbeamlaw29.IndexVariants', WHERE WHAT IT READS IS OF BULK AT MOST 1048576: true; the input reads as it did. -/
def indexVariantsUptoRow : OpenClaim := { program := "ytpkpdjekoghkcaa", sum := "a68fac64768028221908099031268819606b06bd173928356447c47953452e5c", func := "hornbeam/hornbeamlaw29.IndexVariants", spec := "indexVariants", unfollowed := true, recurses := true, loops := true, plainKeys := false, apart := false, narrowed := true }
def IndexVariantsUptoSaid : Prop := indexVariantsUptoRow.holds Try.pinned (OpenSpec.upto indexVariantsSpec)

end Rows
end Go.Proofs.Ytpkpdjekoghkcaa
