/-
  Plain: what the calls that change streams return.
-/
import Derived.Test.YtklpghpfdeojeaaUc
import Derived.Test.YtklpghpfdeojeaaSl
namespace Go.Proofs.Ytklpghpfdeojeaa
open Go.RowKit

@[reducible] def zV : Value := .agg #[.slice none 0 0, .slice none 0 0, .int .i64 0, .int .i64 0, .int .i64 0]
theorem zero_own (w : World) (b : Nat) : OwnS w b zV zS := ⟨_, _, rfl, ⟨rfl, .inl ⟨rfl, rfl⟩⟩, ⟨rfl, .inl ⟨rfl, rfl⟩⟩⟩
def closeS (s : Sm) (i : Nat) (id : Int) : Sm := { s with opn := s.opn.eraseIdx i, inp := if s.inp == id then 0 else s.inp, out := if s.out == id then 1 else s.out }
def closeV (s : Sm) (id : Int) : Except Int Sm :=
  match askV s id true with
  | .error e => .error e
  | .ok i => if id < 2 then .error 5 else .ok (closeS s i id)
def useV (s : Sm) (id : Int) : Except Int Sm :=
  match askV s id true with
  | .error e => .error e
  | .ok i => match s.opn[i]? with
    | some x => .ok (useS s x.mode id)
    | none => .error 5
def skipV (s : Sm) (id n : Int) : Except Int Sm :=
  match readV s id (decide (0 ≤ n)) with
  | .error e => .error e
  | .ok i => match s.opn[i]? with
    | some x => if ((restT s x).size : Int) < n then .error 14 else .ok { s with opn := s.opn.set i { x with pos := x.pos + n } }
    | none => .error 5
def putS (s : Sm) (x : G) (t : ByteArray) : Sm := { s with files := s.files.set (idxI s.files (fileP x.file)).toNat { fileOf s x with text := (fileOf s x).text ++ t } }
def putV (s : Sm) (id : Int) (t : ByteArray) : Except Int Sm :=
  match askV s id (decide ((t.size : Int) ≤ 16384)) with
  | .error e => .error e
  | .ok i => match s.opn[i]? with
    | some x => if x.mode == 1 then .error 5 else if 16384 < (fileOf s x).text.size + t.size then .error 13 else .ok (putS s x t)
    | none => .error 5
def getC (t : ByteArray) : Int := if h : 0 < t.size then (t[0].toNat : Int) else -1
def getV (s : Sm) (id : Int) : Except Int (Sm × Int) :=
  match readV s id true with
  | .error e => .error e
  | .ok i => match s.opn[i]? with
    | some x => .ok ({ s with opn := s.opn.set i (getG (getC (restT s x)) x) }, getC (restT s x))
    | none => .error 5
def sm2 : Except Int (Sm × Int) → Sm
  | .ok (s, _) => s
  | .error _ => zS
def in2 : Except Int (Sm × Int) → Int
  | .ok (_, c) => c
  | .error _ => 0
def peekV (s : Sm) (id : Int) : Except Int (Sm × Int) :=
  match getV s id with
  | .error e => .error e
  | .ok (_, c) => .ok (s, c)
def boolOf : Except Int Bool → Bool
  | .ok b => b
  | .error _ => false
def atEndV (s : Sm) (id : Int) : Except Int Bool :=
  match askV s id true with
  | .error e => .error e
  | .ok i => match s.opn[i]? with
    | some x => if x.mode != 1 then .error 5 else .ok (x.pos == (fileOf s x).text.size)
    | none => .error 5
def findV (s : Sm) (name : ByteArray) : Option Int :=
  if validB s && !name.toList.isEmpty then (match s.opn.findIdx? (aliasP name) with | some i => (s.opn[i]?).map (·.id) | none => none) else none
def textV (s : Sm) (name : ByteArray) : Option ByteArray :=
  if validB s then (match s.files.findIdx? (fileP name) with | some i => (s.files[i]?).map (·.text) | none => none) else none
/-- the results of a call that changes streams -/
def RetS (r : Except Int Sm) (w : World) (e : Ending) (w' : World) : Prop := (∃ v', e = .returned (.tuple #[v', .int .i64 (errOf r)]) ∧ OwnS w' w.heap.size v' (smOf r)) ∧ Below w.heap.size w w'
def RetG (r : Except Int (Sm × Int)) (w : World) (e : Ending) (w' : World) : Prop := (∃ v', e = .returned (.tuple #[v', .int .i64 (in2 r), .int .i64 (errOf r)]) ∧ OwnS w' w.heap.size v' (sm2 r)) ∧ Below w.heap.size w w'
theorem RetS.bad {r : Except Int Sm} {er : Int} (hr : r = .error er) {w w' : World} (hb : Below w.heap.size w w') : RetS r w (.returned (.tuple #[zV, .int .i64 er])) w' := by
  subst hr
  exact ⟨⟨_, rfl, zero_own _ _⟩, hb⟩
theorem RetS.good {r : Except Int Sm} {s : Sm} (hr : r = .ok s) {v : Value} {w w' : World} (ho : OwnS w' w.heap.size v s) (hb : Below w.heap.size w w') : RetS r w (.returned (.tuple #[v, .int .i64 0])) w' := by
  subst hr
  exact ⟨⟨_, rfl, ho⟩, hb⟩
theorem RetG.bad {r : Except Int (Sm × Int)} {er : Int} (hr : r = .error er) {w w' : World} (hb : Below w.heap.size w w') : RetG r w (.returned (.tuple #[zV, .int .i64 0, .int .i64 er])) w' := by
  subst hr
  exact ⟨⟨_, rfl, zero_own _ _⟩, hb⟩
theorem RetG.good {r : Except Int (Sm × Int)} {s : Sm} {c : Int} (hr : r = .ok (s, c)) {v : Value} {w w' : World} (ho : OwnS w' w.heap.size v s) (hb : Below w.heap.size w w') : RetG r w (.returned (.tuple #[v, .int .i64 c, .int .i64 0])) w' := by
  subst hr
  exact ⟨⟨_, rfl, ho⟩, hb⟩
end Go.Proofs.Ytklpghpfdeojeaa
