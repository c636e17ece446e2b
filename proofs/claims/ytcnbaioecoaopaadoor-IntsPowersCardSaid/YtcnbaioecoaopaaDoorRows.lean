/-
  NARROWER THAN 'FOR EVERY INPUT', by the rows' own cells (each row's printed sentence says how): IntsUnary: laid · IntsBinary: laid · IntsParse: laid · IntsText: laid · IntsDivides: laid · IntsShifts: laid · IntsPowers: laid · IntsBits: laid · IntsDivisors: laid · IntsOrders: laid.
  DERIVED. THE GIVEN ROWS OF THIS SEAT. 10 by the template 'for every input the law returns true; each argument reads behind the call as it read before'; 0 by the template 'total and deterministic' (their statements: YtcnbaioecoaopaaDoorTotals.lean).
  GIVEN WITH THE SEED: the statements are not yours to turn. If you find one false, say at which input.
  Laid BY PROGRAM, IN A SANDBOX (cutbox-rows.mjs): the forced cells as the released guide's own fill.sh prints them over the translation d254a4e77f3156c8… (all of the seat's roots in one cut). By AI agents, Wed Nov 11 2026. No macro, syntax, notation, axiom, sorry.
-/
import Derived.Test.YtcnbaioecoaopaaDoorChecked
import GoSem.Claim
import GoSem.ClaimJoined
import GoSem.ClaimMapViews
import Derived.JoinedTies
import Derived.KernelRfl
namespace Go.Proofs.YtcnbaioecoaopaaDoor
/- THE CELL 'sum', in the pinned program and in every row, IS THE sha256 OF THE DUMP (.gsa) THAT YtcnbaioecoaopaaDoorProg.lean LOADS. Nothing in Lean hashes anything: it is a label: what it is worth is what the hold of that sum in a sandbox is worth. -/
noncomputable def Tryd.pinned : Pinned := { name := "ytcnbaioecoaopaadoor", sum := "d254a4e77f3156c8dcc29b5c59ae70b2eabbd10bec7830425f56c01dfa8e2cd1", checked := Tryd.checked }
namespace Rows
def none {H : Type} : Left H := { results := [], args := [] }

/- WHAT THE LISTED PACKAGE-LEVEL VARIABLES READ AS WHEN THE CALL BEGINS. Each datum BY PROGRAM (the guide's laid-datum.mjs) off the statement by which the dump's own 'gosem.cut.vars' lays the variable. In a bare row this is a premise. The card (YtcnbaioecoaopaaDoorCards.lean) ties it to the program's text. -/
def laid_math_bits_deBruijn32tab {H : Type} : DataW H := .agg [.lit (.int .u8 0), .lit (.int .u8 1), .lit (.int .u8 28), .lit (.int .u8 2), .lit (.int .u8 29), .lit (.int .u8 14), .lit (.int .u8 24), .lit (.int .u8 3), .lit (.int .u8 30), .lit (.int .u8 22), .lit (.int .u8 20), .lit (.int .u8 15), .lit (.int .u8 25), .lit (.int .u8 17), .lit (.int .u8 4), .lit (.int .u8 8), .lit (.int .u8 31), .lit (.int .u8 27), .lit (.int .u8 13), .lit (.int .u8 23), .lit (.int .u8 21), .lit (.int .u8 19), .lit (.int .u8 16), .lit (.int .u8 7), .lit (.int .u8 26), .lit (.int .u8 12), .lit (.int .u8 18), .lit (.int .u8 6), .lit (.int .u8 11), .lit (.int .u8 5), .lit (.int .u8 10), .lit (.int .u8 9)]
def laid_math_bits_deBruijn64tab {H : Type} : DataW H := .agg [.lit (.int .u8 0), .lit (.int .u8 1), .lit (.int .u8 56), .lit (.int .u8 2), .lit (.int .u8 57), .lit (.int .u8 49), .lit (.int .u8 28), .lit (.int .u8 3), .lit (.int .u8 61), .lit (.int .u8 58), .lit (.int .u8 42), .lit (.int .u8 50), .lit (.int .u8 38), .lit (.int .u8 29), .lit (.int .u8 17), .lit (.int .u8 4), .lit (.int .u8 62), .lit (.int .u8 47), .lit (.int .u8 59), .lit (.int .u8 36), .lit (.int .u8 45), .lit (.int .u8 43), .lit (.int .u8 51), .lit (.int .u8 22), .lit (.int .u8 53), .lit (.int .u8 39), .lit (.int .u8 33), .lit (.int .u8 30), .lit (.int .u8 24), .lit (.int .u8 18), .lit (.int .u8 12), .lit (.int .u8 5), .lit (.int .u8 63), .lit (.int .u8 55), .lit (.int .u8 48), .lit (.int .u8 27), .lit (.int .u8 60), .lit (.int .u8 41), .lit (.int .u8 37), .lit (.int .u8 16), .lit (.int .u8 46), .lit (.int .u8 35), .lit (.int .u8 44), .lit (.int .u8 21), .lit (.int .u8 52), .lit (.int .u8 32), .lit (.int .u8 23), .lit (.int .u8 11), .lit (.int .u8 54), .lit (.int .u8 26), .lit (.int .u8 40), .lit (.int .u8 15), .lit (.int .u8 34), .lit (.int .u8 20), .lit (.int .u8 31), .lit (.int .u8 10), .lit (.int .u8 25), .lit (.int .u8 14), .lit (.int .u8 19), .lit (.int .u8 9), .lit (.int .u8 13), .lit (.int .u8 8), .lit (.int .u8 7), .lit (.int .u8 6)]
def laid_internal_strconv_uint64pow10 {H : Type} : DataW H := .agg [.lit (.int .u64 1), .lit (.int .u64 10), .lit (.int .u64 100), .lit (.int .u64 1000), .lit (.int .u64 10000), .lit (.int .u64 100000), .lit (.int .u64 1000000), .lit (.int .u64 10000000), .lit (.int .u64 100000000), .lit (.int .u64 1000000000), .lit (.int .u64 10000000000), .lit (.int .u64 100000000000), .lit (.int .u64 1000000000000), .lit (.int .u64 10000000000000), .lit (.int .u64 100000000000000), .lit (.int .u64 1000000000000000), .lit (.int .u64 10000000000000000), .lit (.int .u64 100000000000000000), .lit (.int .u64 1000000000000000000), .lit (.int .u64 10000000000000000000)]

/-- 'hornbeamlaw02.IntsUnary': WHATEVER THE INPUT: true; the input reads as it did. -/
def intsUnarySpec : ChangeSpec := { name := "intsUnary", fn := fun _ => fun
  | [d1, d2, d3] => { results := [.lit (.bool true)], args := [d1, d2, d3] }
  | _ => none }
def intsUnaryRow : OpenClaim := { program := "ytcnbaioecoaopaadoor", sum := "d254a4e77f3156c8dcc29b5c59ae70b2eabbd10bec7830425f56c01dfa8e2cd1", func := "hornbeam/hornbeamlaw02.IntsUnary", spec := "intsUnary", unfollowed := true, recurses := true, named := ["internal/strconv.uint64pow10", "math/bits.deBruijn32tab", "math/bits.deBruijn64tab"], apart := false, laid := [("math/bits.deBruijn32tab", laid_math_bits_deBruijn32tab), ("math/bits.deBruijn64tab", laid_math_bits_deBruijn64tab), ("internal/strconv.uint64pow10", laid_internal_strconv_uint64pow10)] }
def IntsUnarySaid : Prop := intsUnaryRow.holds Tryd.pinned (OpenSpec.ofChange intsUnarySpec)

/-- ITS FALSE NEIGHBOUR: 'it returns false'. Refute it at one input. -/
def intsUnaryWrong : ChangeSpec := { name := "intsUnary", fn := fun _ => fun
  | [d1, d2, d3] => { results := [.lit (.bool false)], args := [d1, d2, d3] }
  | _ => none }
def IntsUnaryWrongFalsely : Prop := intsUnaryRow.holds Tryd.pinned (OpenSpec.ofChange intsUnaryWrong)

/-- 'hornbeamlaw02.IntsBinary': WHATEVER THE INPUT: true; the input reads as it did. -/
def intsBinarySpec : ChangeSpec := { name := "intsBinary", fn := fun _ => fun
  | [d1, d2, d3] => { results := [.lit (.bool true)], args := [d1, d2, d3] }
  | _ => none }
def intsBinaryRow : OpenClaim := { program := "ytcnbaioecoaopaadoor", sum := "d254a4e77f3156c8dcc29b5c59ae70b2eabbd10bec7830425f56c01dfa8e2cd1", func := "hornbeam/hornbeamlaw02.IntsBinary", spec := "intsBinary", unfollowed := true, recurses := true, named := ["internal/strconv.uint64pow10", "math/bits.deBruijn32tab", "math/bits.deBruijn64tab"], apart := false, laid := [("math/bits.deBruijn32tab", laid_math_bits_deBruijn32tab), ("math/bits.deBruijn64tab", laid_math_bits_deBruijn64tab), ("internal/strconv.uint64pow10", laid_internal_strconv_uint64pow10)] }
def IntsBinarySaid : Prop := intsBinaryRow.holds Tryd.pinned (OpenSpec.ofChange intsBinarySpec)

/-- ITS FALSE NEIGHBOUR: 'it returns false'. Refute it at one input. -/
def intsBinaryWrong : ChangeSpec := { name := "intsBinary", fn := fun _ => fun
  | [d1, d2, d3] => { results := [.lit (.bool false)], args := [d1, d2, d3] }
  | _ => none }
def IntsBinaryWrongFalsely : Prop := intsBinaryRow.holds Tryd.pinned (OpenSpec.ofChange intsBinaryWrong)

/-- 'hornbeamlaw02.IntsParse': WHATEVER THE INPUT: true; the input reads as it did. -/
def intsParseSpec : ChangeSpec := { name := "intsParse", fn := fun _ => fun
  | [d1, d2] => { results := [.lit (.bool true)], args := [d1, d2] }
  | _ => none }
def intsParseRow : OpenClaim := { program := "ytcnbaioecoaopaadoor", sum := "d254a4e77f3156c8dcc29b5c59ae70b2eabbd10bec7830425f56c01dfa8e2cd1", func := "hornbeam/hornbeamlaw02.IntsParse", spec := "intsParse", unfollowed := true, recurses := true, named := ["internal/strconv.uint64pow10", "math/bits.deBruijn32tab", "math/bits.deBruijn64tab"], apart := false, laid := [("math/bits.deBruijn32tab", laid_math_bits_deBruijn32tab), ("math/bits.deBruijn64tab", laid_math_bits_deBruijn64tab), ("internal/strconv.uint64pow10", laid_internal_strconv_uint64pow10)] }
def IntsParseSaid : Prop := intsParseRow.holds Tryd.pinned (OpenSpec.ofChange intsParseSpec)

/-- ITS FALSE NEIGHBOUR: 'it returns false'. Refute it at one input. -/
def intsParseWrong : ChangeSpec := { name := "intsParse", fn := fun _ => fun
  | [d1, d2] => { results := [.lit (.bool false)], args := [d1, d2] }
  | _ => none }
def IntsParseWrongFalsely : Prop := intsParseRow.holds Tryd.pinned (OpenSpec.ofChange intsParseWrong)

/-- 'hornbeamlaw02.IntsText': WHATEVER THE INPUT: true; the input reads as it did. -/
def intsTextSpec : ChangeSpec := { name := "intsText", fn := fun _ => fun
  | [d] => { results := [.lit (.bool true)], args := [d] }
  | _ => none }
def intsTextRow : OpenClaim := { program := "ytcnbaioecoaopaadoor", sum := "d254a4e77f3156c8dcc29b5c59ae70b2eabbd10bec7830425f56c01dfa8e2cd1", func := "hornbeam/hornbeamlaw02.IntsText", spec := "intsText", unfollowed := true, recurses := true, named := ["internal/strconv.uint64pow10", "math/bits.deBruijn32tab", "math/bits.deBruijn64tab"], apart := false, laid := [("math/bits.deBruijn32tab", laid_math_bits_deBruijn32tab), ("math/bits.deBruijn64tab", laid_math_bits_deBruijn64tab), ("internal/strconv.uint64pow10", laid_internal_strconv_uint64pow10)] }
def IntsTextSaid : Prop := intsTextRow.holds Tryd.pinned (OpenSpec.ofChange intsTextSpec)

/-- ITS FALSE NEIGHBOUR: 'it returns false'. Refute it at one input. -/
def intsTextWrong : ChangeSpec := { name := "intsText", fn := fun _ => fun
  | [d] => { results := [.lit (.bool false)], args := [d] }
  | _ => none }
def IntsTextWrongFalsely : Prop := intsTextRow.holds Tryd.pinned (OpenSpec.ofChange intsTextWrong)

/-- 'hornbeamlaw02.IntsDivides': WHATEVER THE INPUT: true; the input reads as it did. -/
def intsDividesSpec : ChangeSpec := { name := "intsDivides", fn := fun _ => fun
  | [d1, d2] => { results := [.lit (.bool true)], args := [d1, d2] }
  | _ => none }
def intsDividesRow : OpenClaim := { program := "ytcnbaioecoaopaadoor", sum := "d254a4e77f3156c8dcc29b5c59ae70b2eabbd10bec7830425f56c01dfa8e2cd1", func := "hornbeam/hornbeamlaw02.IntsDivides", spec := "intsDivides", unfollowed := true, recurses := true, named := ["internal/strconv.uint64pow10", "math/bits.deBruijn32tab", "math/bits.deBruijn64tab"], apart := false, laid := [("math/bits.deBruijn32tab", laid_math_bits_deBruijn32tab), ("math/bits.deBruijn64tab", laid_math_bits_deBruijn64tab), ("internal/strconv.uint64pow10", laid_internal_strconv_uint64pow10)] }
def IntsDividesSaid : Prop := intsDividesRow.holds Tryd.pinned (OpenSpec.ofChange intsDividesSpec)

/-- ITS FALSE NEIGHBOUR: 'it returns false'. Refute it at one input. -/
def intsDividesWrong : ChangeSpec := { name := "intsDivides", fn := fun _ => fun
  | [d1, d2] => { results := [.lit (.bool false)], args := [d1, d2] }
  | _ => none }
def IntsDividesWrongFalsely : Prop := intsDividesRow.holds Tryd.pinned (OpenSpec.ofChange intsDividesWrong)

/-- 'hornbeamlaw02.IntsShifts': WHATEVER THE INPUT: true; the input reads as it did. -/
def intsShiftsSpec : ChangeSpec := { name := "intsShifts", fn := fun _ => fun
  | [d1, d2, d3] => { results := [.lit (.bool true)], args := [d1, d2, d3] }
  | _ => none }
def intsShiftsRow : OpenClaim := { program := "ytcnbaioecoaopaadoor", sum := "d254a4e77f3156c8dcc29b5c59ae70b2eabbd10bec7830425f56c01dfa8e2cd1", func := "hornbeam/hornbeamlaw02.IntsShifts", spec := "intsShifts", unfollowed := true, recurses := true, named := ["internal/strconv.uint64pow10", "math/bits.deBruijn32tab", "math/bits.deBruijn64tab"], apart := false, laid := [("math/bits.deBruijn32tab", laid_math_bits_deBruijn32tab), ("math/bits.deBruijn64tab", laid_math_bits_deBruijn64tab), ("internal/strconv.uint64pow10", laid_internal_strconv_uint64pow10)] }
def IntsShiftsSaid : Prop := intsShiftsRow.holds Tryd.pinned (OpenSpec.ofChange intsShiftsSpec)

/-- ITS FALSE NEIGHBOUR: 'it returns false'. Refute it at one input. -/
def intsShiftsWrong : ChangeSpec := { name := "intsShifts", fn := fun _ => fun
  | [d1, d2, d3] => { results := [.lit (.bool false)], args := [d1, d2, d3] }
  | _ => none }
def IntsShiftsWrongFalsely : Prop := intsShiftsRow.holds Tryd.pinned (OpenSpec.ofChange intsShiftsWrong)

/-- 'hornbeamlaw02.IntsPowers': WHATEVER THE INPUT: true; the input reads as it did. -/
def intsPowersSpec : ChangeSpec := { name := "intsPowers", fn := fun _ => fun
  | [d1, d2, d3] => { results := [.lit (.bool true)], args := [d1, d2, d3] }
  | _ => none }
def intsPowersRow : OpenClaim := { program := "ytcnbaioecoaopaadoor", sum := "d254a4e77f3156c8dcc29b5c59ae70b2eabbd10bec7830425f56c01dfa8e2cd1", func := "hornbeam/hornbeamlaw02.IntsPowers", spec := "intsPowers", unfollowed := true, recurses := true, named := ["internal/strconv.uint64pow10", "math/bits.deBruijn32tab", "math/bits.deBruijn64tab"], apart := false, laid := [("math/bits.deBruijn32tab", laid_math_bits_deBruijn32tab), ("math/bits.deBruijn64tab", laid_math_bits_deBruijn64tab), ("internal/strconv.uint64pow10", laid_internal_strconv_uint64pow10)] }
def IntsPowersSaid : Prop := intsPowersRow.holds Tryd.pinned (OpenSpec.ofChange intsPowersSpec)

/-- ITS FALSE NEIGHBOUR: 'it returns false'. Refute it at one input. -/
def intsPowersWrong : ChangeSpec := { name := "intsPowers", fn := fun _ => fun
  | [d1, d2, d3] => { results := [.lit (.bool false)], args := [d1, d2, d3] }
  | _ => none }
def IntsPowersWrongFalsely : Prop := intsPowersRow.holds Tryd.pinned (OpenSpec.ofChange intsPowersWrong)

/-- 'hornbeamlaw02.IntsBits': WHATEVER THE INPUT: true; the input reads as it did. -/
def intsBitsSpec : ChangeSpec := { name := "intsBits", fn := fun _ => fun
  | [d1, d2] => { results := [.lit (.bool true)], args := [d1, d2] }
  | _ => none }
def intsBitsRow : OpenClaim := { program := "ytcnbaioecoaopaadoor", sum := "d254a4e77f3156c8dcc29b5c59ae70b2eabbd10bec7830425f56c01dfa8e2cd1", func := "hornbeam/hornbeamlaw02.IntsBits", spec := "intsBits", unfollowed := true, recurses := true, named := ["internal/strconv.uint64pow10", "math/bits.deBruijn32tab", "math/bits.deBruijn64tab"], apart := false, laid := [("math/bits.deBruijn32tab", laid_math_bits_deBruijn32tab), ("math/bits.deBruijn64tab", laid_math_bits_deBruijn64tab), ("internal/strconv.uint64pow10", laid_internal_strconv_uint64pow10)] }
def IntsBitsSaid : Prop := intsBitsRow.holds Tryd.pinned (OpenSpec.ofChange intsBitsSpec)

/-- ITS FALSE NEIGHBOUR: 'it returns false'. Refute it at one input. -/
def intsBitsWrong : ChangeSpec := { name := "intsBits", fn := fun _ => fun
  | [d1, d2] => { results := [.lit (.bool false)], args := [d1, d2] }
  | _ => none }
def IntsBitsWrongFalsely : Prop := intsBitsRow.holds Tryd.pinned (OpenSpec.ofChange intsBitsWrong)

/-- 'hornbeamlaw02.IntsDivisors': WHATEVER THE INPUT: true; the input reads as it did. -/
def intsDivisorsSpec : ChangeSpec := { name := "intsDivisors", fn := fun _ => fun
  | [d1, d2] => { results := [.lit (.bool true)], args := [d1, d2] }
  | _ => none }
def intsDivisorsRow : OpenClaim := { program := "ytcnbaioecoaopaadoor", sum := "d254a4e77f3156c8dcc29b5c59ae70b2eabbd10bec7830425f56c01dfa8e2cd1", func := "hornbeam/hornbeamlaw02.IntsDivisors", spec := "intsDivisors", unfollowed := true, recurses := true, named := ["internal/strconv.uint64pow10", "math/bits.deBruijn32tab", "math/bits.deBruijn64tab"], apart := false, laid := [("math/bits.deBruijn32tab", laid_math_bits_deBruijn32tab), ("math/bits.deBruijn64tab", laid_math_bits_deBruijn64tab), ("internal/strconv.uint64pow10", laid_internal_strconv_uint64pow10)] }
def IntsDivisorsSaid : Prop := intsDivisorsRow.holds Tryd.pinned (OpenSpec.ofChange intsDivisorsSpec)

/-- ITS FALSE NEIGHBOUR: 'it returns false'. Refute it at one input. -/
def intsDivisorsWrong : ChangeSpec := { name := "intsDivisors", fn := fun _ => fun
  | [d1, d2] => { results := [.lit (.bool false)], args := [d1, d2] }
  | _ => none }
def IntsDivisorsWrongFalsely : Prop := intsDivisorsRow.holds Tryd.pinned (OpenSpec.ofChange intsDivisorsWrong)

/-- 'hornbeamlaw02.IntsOrders': WHATEVER THE INPUT: true; the input reads as it did. -/
def intsOrdersSpec : ChangeSpec := { name := "intsOrders", fn := fun _ => fun
  | [d1, d2] => { results := [.lit (.bool true)], args := [d1, d2] }
  | _ => none }
def intsOrdersRow : OpenClaim := { program := "ytcnbaioecoaopaadoor", sum := "d254a4e77f3156c8dcc29b5c59ae70b2eabbd10bec7830425f56c01dfa8e2cd1", func := "hornbeam/hornbeamlaw02.IntsOrders", spec := "intsOrders", unfollowed := true, recurses := true, named := ["internal/strconv.uint64pow10", "math/bits.deBruijn32tab", "math/bits.deBruijn64tab"], apart := false, laid := [("math/bits.deBruijn32tab", laid_math_bits_deBruijn32tab), ("math/bits.deBruijn64tab", laid_math_bits_deBruijn64tab), ("internal/strconv.uint64pow10", laid_internal_strconv_uint64pow10)] }
def IntsOrdersSaid : Prop := intsOrdersRow.holds Tryd.pinned (OpenSpec.ofChange intsOrdersSpec)

/-- ITS FALSE NEIGHBOUR: 'it returns false'. Refute it at one input. -/
def intsOrdersWrong : ChangeSpec := { name := "intsOrders", fn := fun _ => fun
  | [d1, d2] => { results := [.lit (.bool false)], args := [d1, d2] }
  | _ => none }
def IntsOrdersWrongFalsely : Prop := intsOrdersRow.holds Tryd.pinned (OpenSpec.ofChange intsOrdersWrong)

/- THE SECOND FORM. 'bulk': how many values and letters a reading holds, each counted each time it is reached (what is shared counts as often as it is met; a slice's spare places count too). A statement '..UptoSaid' is the law's where the arguments, and the package variables that the reading takes, are together of bulk at most 1048576: NARROWER than '..Said'. Prove '..Said' where nothing that the law and all that it calls make is longer than what came in: it says more and counts as full. Else prove '..UptoSaid'. A law counts once. -/
mutual
def uptoBulk {H : Type} : DataW H → Nat
  | .lit (.string bytes) => bytes.length + 1
  | .lit _ => 1
  | .nil => 1
  | .ptr d => uptoBulk d + 1
  | .slice elems spare => uptoBulkAll elems + uptoBulkAll spare + 1
  | .agg parts => uptoBulkAll parts + 1
  | .iface _ d => uptoBulk d + 1
  | .map entries => uptoBulkEntries entries + 1
  | .held _ => 1
def uptoBulkAll {H : Type} : List (DataW H) → Nat
  | [] => 0
  | d :: r => uptoBulk d + uptoBulkAll r
def uptoBulkEntries {H : Type} : List (Lit × DataW H) → Nat
  | [] => 0
  | x :: r => uptoBulkEntry x + uptoBulkEntries r
def uptoBulkEntry {H : Type} : Lit × DataW H → Nat
  | (.string bytes, d) => bytes.length + uptoBulk d + 1
  | (_, d) => uptoBulk d + 1
 end
def uptoSmall : (H : Type) → List (DataW H) → Bool := fun _ ds => decide (uptoBulkAll ds ≤ 1048576)
def OpenSpec.upto (s : _root_.Go.ChangeSpec) : _root_.Go.OpenSpec := { _root_.Go.OpenSpec.ofChange s with cond := some uptoSmall }

/-- 'hornbeamlaw02.IntsUnary', WHERE WHAT IT READS IS OF BULK AT MOST 1048576: true; the input reads as it did. -/
def intsUnaryUptoRow : OpenClaim := { program := "ytcnbaioecoaopaadoor", sum := "d254a4e77f3156c8dcc29b5c59ae70b2eabbd10bec7830425f56c01dfa8e2cd1", func := "hornbeam/hornbeamlaw02.IntsUnary", spec := "intsUnary", unfollowed := true, recurses := true, named := ["internal/strconv.uint64pow10", "math/bits.deBruijn32tab", "math/bits.deBruijn64tab"], apart := false, laid := [("math/bits.deBruijn32tab", laid_math_bits_deBruijn32tab), ("math/bits.deBruijn64tab", laid_math_bits_deBruijn64tab), ("internal/strconv.uint64pow10", laid_internal_strconv_uint64pow10)], narrowed := true }
def IntsUnaryUptoSaid : Prop := intsUnaryUptoRow.holds Tryd.pinned (OpenSpec.upto intsUnarySpec)

/-- 'hornbeamlaw02.IntsBinary', WHERE WHAT IT READS IS OF BULK AT MOST 1048576: true; the input reads as it did. -/
def intsBinaryUptoRow : OpenClaim := { program := "ytcnbaioecoaopaadoor", sum := "d254a4e77f3156c8dcc29b5c59ae70b2eabbd10bec7830425f56c01dfa8e2cd1", func := "hornbeam/hornbeamlaw02.IntsBinary", spec := "intsBinary", unfollowed := true, recurses := true, named := ["internal/strconv.uint64pow10", "math/bits.deBruijn32tab", "math/bits.deBruijn64tab"], apart := false, laid := [("math/bits.deBruijn32tab", laid_math_bits_deBruijn32tab), ("math/bits.deBruijn64tab", laid_math_bits_deBruijn64tab), ("internal/strconv.uint64pow10", laid_internal_strconv_uint64pow10)], narrowed := true }
def IntsBinaryUptoSaid : Prop := intsBinaryUptoRow.holds Tryd.pinned (OpenSpec.upto intsBinarySpec)

/-- 'hornbeamlaw02.IntsParse', WHERE WHAT IT READS IS OF BULK AT MOST 1048576: true; the input reads as it did. -/
def intsParseUptoRow : OpenClaim := { program := "ytcnbaioecoaopaadoor", sum := "d254a4e77f3156c8dcc29b5c59ae70b2eabbd10bec7830425f56c01dfa8e2cd1", func := "hornbeam/hornbeamlaw02.IntsParse", spec := "intsParse", unfollowed := true, recurses := true, named := ["internal/strconv.uint64pow10", "math/bits.deBruijn32tab", "math/bits.deBruijn64tab"], apart := false, laid := [("math/bits.deBruijn32tab", laid_math_bits_deBruijn32tab), ("math/bits.deBruijn64tab", laid_math_bits_deBruijn64tab), ("internal/strconv.uint64pow10", laid_internal_strconv_uint64pow10)], narrowed := true }
def IntsParseUptoSaid : Prop := intsParseUptoRow.holds Tryd.pinned (OpenSpec.upto intsParseSpec)

/-- 'hornbeamlaw02.IntsText', WHERE WHAT IT READS IS OF BULK AT MOST 1048576: true; the input reads as it did. -/
def intsTextUptoRow : OpenClaim := { program := "ytcnbaioecoaopaadoor", sum := "d254a4e77f3156c8dcc29b5c59ae70b2eabbd10bec7830425f56c01dfa8e2cd1", func := "hornbeam/hornbeamlaw02.IntsText", spec := "intsText", unfollowed := true, recurses := true, named := ["internal/strconv.uint64pow10", "math/bits.deBruijn32tab", "math/bits.deBruijn64tab"], apart := false, laid := [("math/bits.deBruijn32tab", laid_math_bits_deBruijn32tab), ("math/bits.deBruijn64tab", laid_math_bits_deBruijn64tab), ("internal/strconv.uint64pow10", laid_internal_strconv_uint64pow10)], narrowed := true }
def IntsTextUptoSaid : Prop := intsTextUptoRow.holds Tryd.pinned (OpenSpec.upto intsTextSpec)

/-- 'hornbeamlaw02.IntsDivides', WHERE WHAT IT READS IS OF BULK AT MOST 1048576: true; the input reads as it did. -/
def intsDividesUptoRow : OpenClaim := { program := "ytcnbaioecoaopaadoor", sum := "d254a4e77f3156c8dcc29b5c59ae70b2eabbd10bec7830425f56c01dfa8e2cd1", func := "hornbeam/hornbeamlaw02.IntsDivides", spec := "intsDivides", unfollowed := true, recurses := true, named := ["internal/strconv.uint64pow10", "math/bits.deBruijn32tab", "math/bits.deBruijn64tab"], apart := false, laid := [("math/bits.deBruijn32tab", laid_math_bits_deBruijn32tab), ("math/bits.deBruijn64tab", laid_math_bits_deBruijn64tab), ("internal/strconv.uint64pow10", laid_internal_strconv_uint64pow10)], narrowed := true }
def IntsDividesUptoSaid : Prop := intsDividesUptoRow.holds Tryd.pinned (OpenSpec.upto intsDividesSpec)

/-- 'hornbeamlaw02.IntsShifts', WHERE WHAT IT READS IS OF BULK AT MOST 1048576: true; the input reads as it did. -/
def intsShiftsUptoRow : OpenClaim := { program := "ytcnbaioecoaopaadoor", sum := "d254a4e77f3156c8dcc29b5c59ae70b2eabbd10bec7830425f56c01dfa8e2cd1", func := "hornbeam/hornbeamlaw02.IntsShifts", spec := "intsShifts", unfollowed := true, recurses := true, named := ["internal/strconv.uint64pow10", "math/bits.deBruijn32tab", "math/bits.deBruijn64tab"], apart := false, laid := [("math/bits.deBruijn32tab", laid_math_bits_deBruijn32tab), ("math/bits.deBruijn64tab", laid_math_bits_deBruijn64tab), ("internal/strconv.uint64pow10", laid_internal_strconv_uint64pow10)], narrowed := true }
def IntsShiftsUptoSaid : Prop := intsShiftsUptoRow.holds Tryd.pinned (OpenSpec.upto intsShiftsSpec)

/-- 'hornbeamlaw02.IntsPowers', WHERE WHAT IT READS IS OF BULK AT MOST 1048576: true; the input reads as it did. -/
def intsPowersUptoRow : OpenClaim := { program := "ytcnbaioecoaopaadoor", sum := "d254a4e77f3156c8dcc29b5c59ae70b2eabbd10bec7830425f56c01dfa8e2cd1", func := "hornbeam/hornbeamlaw02.IntsPowers", spec := "intsPowers", unfollowed := true, recurses := true, named := ["internal/strconv.uint64pow10", "math/bits.deBruijn32tab", "math/bits.deBruijn64tab"], apart := false, laid := [("math/bits.deBruijn32tab", laid_math_bits_deBruijn32tab), ("math/bits.deBruijn64tab", laid_math_bits_deBruijn64tab), ("internal/strconv.uint64pow10", laid_internal_strconv_uint64pow10)], narrowed := true }
def IntsPowersUptoSaid : Prop := intsPowersUptoRow.holds Tryd.pinned (OpenSpec.upto intsPowersSpec)

/-- 'hornbeamlaw02.IntsBits', WHERE WHAT IT READS IS OF BULK AT MOST 1048576: true; the input reads as it did. -/
def intsBitsUptoRow : OpenClaim := { program := "ytcnbaioecoaopaadoor", sum := "d254a4e77f3156c8dcc29b5c59ae70b2eabbd10bec7830425f56c01dfa8e2cd1", func := "hornbeam/hornbeamlaw02.IntsBits", spec := "intsBits", unfollowed := true, recurses := true, named := ["internal/strconv.uint64pow10", "math/bits.deBruijn32tab", "math/bits.deBruijn64tab"], apart := false, laid := [("math/bits.deBruijn32tab", laid_math_bits_deBruijn32tab), ("math/bits.deBruijn64tab", laid_math_bits_deBruijn64tab), ("internal/strconv.uint64pow10", laid_internal_strconv_uint64pow10)], narrowed := true }
def IntsBitsUptoSaid : Prop := intsBitsUptoRow.holds Tryd.pinned (OpenSpec.upto intsBitsSpec)

/-- 'hornbeamlaw02.IntsDivisors', WHERE WHAT IT READS IS OF BULK AT MOST 1048576: true; the input reads as it did. -/
def intsDivisorsUptoRow : OpenClaim := { program := "ytcnbaioecoaopaadoor", sum := "d254a4e77f3156c8dcc29b5c59ae70b2eabbd10bec7830425f56c01dfa8e2cd1", func := "hornbeam/hornbeamlaw02.IntsDivisors", spec := "intsDivisors", unfollowed := true, recurses := true, named := ["internal/strconv.uint64pow10", "math/bits.deBruijn32tab", "math/bits.deBruijn64tab"], apart := false, laid := [("math/bits.deBruijn32tab", laid_math_bits_deBruijn32tab), ("math/bits.deBruijn64tab", laid_math_bits_deBruijn64tab), ("internal/strconv.uint64pow10", laid_internal_strconv_uint64pow10)], narrowed := true }
def IntsDivisorsUptoSaid : Prop := intsDivisorsUptoRow.holds Tryd.pinned (OpenSpec.upto intsDivisorsSpec)

/-- 'hornbeamlaw02.IntsOrders', WHERE WHAT IT READS IS OF BULK AT MOST 1048576: true; the input reads as it did. -/
def intsOrdersUptoRow : OpenClaim := { program := "ytcnbaioecoaopaadoor", sum := "d254a4e77f3156c8dcc29b5c59ae70b2eabbd10bec7830425f56c01dfa8e2cd1", func := "hornbeam/hornbeamlaw02.IntsOrders", spec := "intsOrders", unfollowed := true, recurses := true, named := ["internal/strconv.uint64pow10", "math/bits.deBruijn32tab", "math/bits.deBruijn64tab"], apart := false, laid := [("math/bits.deBruijn32tab", laid_math_bits_deBruijn32tab), ("math/bits.deBruijn64tab", laid_math_bits_deBruijn64tab), ("internal/strconv.uint64pow10", laid_internal_strconv_uint64pow10)], narrowed := true }
def IntsOrdersUptoSaid : Prop := intsOrdersUptoRow.holds Tryd.pinned (OpenSpec.upto intsOrdersSpec)

end Rows
end Go.Proofs.YtcnbaioecoaopaaDoor
