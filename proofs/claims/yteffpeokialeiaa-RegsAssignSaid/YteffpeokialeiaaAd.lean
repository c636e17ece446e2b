/-
  Plain: well-formed instructions; what they read and write.
-/
import Derived.Test.YteffpeokialeiaaAc
namespace Go.Proofs.Yteffpeokialeiaa
open Go.RowKit

def rOk (r : Int) : Bool := r != 0 && (decide (-4096 ≤ r) && decide (r ≤ 4096))
def aOk (a : Int) : Bool := decide (1 ≤ a) && decide (a ≤ 4096)
def nmOk (s : ByteArray) : Bool := decide ((s.size : Int) ≤ 100)
def pdOk (s : ByteArray) (ar n : Int) : Bool :=
  if n = 0 then nmOk s && (decide (0 ≤ ar) && decide (ar ≤ 8)) else s.toList.isEmpty && (decide (1 ≤ n) && (decide (n ≤ 1099511627776) && (decide (0 ≤ ar) && decide (ar ≤ 4096))))
/-- is a field of an instruction within its bounds? -/
def fieldOk (x : In) (c : UInt8) : Bool :=
  if c = 114 then rOk x.r else if c = 97 then aOk x.a else if c = 118 then decide (1 ≤ x.n) && decide (x.n ≤ 8) else if c = 99 then decide (0 ≤ x.n) && decide (x.n ≤ 4096)
  else if c = 115 then nmOk x.nm else if c = 102 then nmOk x.nm && (decide (1 ≤ x.ar) && decide (x.ar ≤ 8)) else if c = 112 then pdOk x.nm x.ar x.n else true
/-- an instruction with one field more of another one -/
def wantStep (x y : In) (c : UInt8) : In :=
  if c = 114 then { y with r := x.r } else if c = 97 then { y with a := x.a } else if c = 110 ∨ c = 118 ∨ c = 99 then { y with n := x.n }
  else if c = 115 then { y with nm := x.nm } else if c = 102 then { y with nm := x.nm, ar := x.ar } else if c = 112 then { y with nm := x.nm, ar := x.ar, n := x.n } else y
def wantOf (x : In) (l : List UInt8) : In := l.foldl (wantStep x) ⟨x.op, 0, 0, 0, ⟨#[]⟩, 0⟩
def sameI (x y : In) : Bool := x.op == y.op && (x.r == y.r && (x.a == y.a && (x.n == y.n && (x.nm.toList == y.nm.toList && x.ar == y.ar))))
def flds (op : Int) : List UInt8 := (sh op).2.1.data.toList
/-- is an instruction well-formed? -/
def fo (x : In) : Bool := (okOp x.op && (flds x.op).all (fieldOk x)) && sameI x (wantOf x (flds x.op))
/-- the registers that some fields name -/
def regStep (x : In) (l : List Int) (c : UInt8) : List Int :=
  if c = 114 then l ++ [x.r] else if c = 97 then (if l.contains x.a then l else l ++ [x.a]) else if c = 112 then l ++ (List.range x.ar.toNat).map (fun i : Nat => (i : Int) + 1) else l
def regsOf (x : In) (s : List UInt8) : List Int := if fo x then s.foldl (regStep x) [] else []
def rdOf (x : In) : List Int := regsOf x (sh x.op).2.2.1.data.toList
def wrOf (x : In) : List Int := regsOf x (sh x.op).2.2.2.data.toList

theorem op_cases {op : Int} (h : okOp op = true) : op = 1 ∨ op = 2 ∨ op = 3 ∨ op = 4 ∨ op = 5 ∨ op = 6 ∨ op = 7 ∨ op = 8 ∨ op = 9 ∨ op = 10 ∨ op = 11 ∨ op = 12 ∨ op = 13 ∨ op = 14 ∨ op = 15 ∨ op = 16 ∨ op = 17 ∨ op = 18 ∨ op = 19 ∨ op = 20 ∨ op = 21 ∨ op = 22 ∨ op = 23 ∨ op = 24 ∨ op = 25 := by
  simp [okOp] at h; omega
/-- the bytes of the fields -/
theorem flds_mem (op : Int) : ∀ c ∈ flds op, c = 114 ∨ c = 97 ∨ c = 110 ∨ c = 118 ∨ c = 99 ∨ c = 115 ∨ c = 102 ∨ c = 112 := by
  cases h : okOp op with
  | false => unfold flds; rw [sh_out h]; intro c hc; cases hc
  | true => rcases op_cases h with rfl | rfl | rfl | rfl | rfl | rfl | rfl | rfl | rfl | rfl | rfl | rfl | rfl | rfl | rfl | rfl | rfl | rfl | rfl | rfl | rfl | rfl | rfl | rfl | rfl <;> decide
end Go.Proofs.Yteffpeokialeiaa
