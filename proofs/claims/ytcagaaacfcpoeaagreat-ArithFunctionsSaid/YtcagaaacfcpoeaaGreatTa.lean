/-
  Terms as trees; when a slice reads as a list of terms; the plain laws on their size and validity.
-/
import Derived.Test.YtcagaaacfcpoeaaGreatProg
import Derived.Test.YtcagaaacfcpoeaaGreatFam
import Derived.WalkLawsBesides
import Derived.Lib.Hide
namespace Go.Proofs.YtcagaaacfcpoeaaGreat
open Go.RowKit

/-- a term -/
inductive Tm where
  | mk (kind n : Int) (name : ByteArray) (args : List Tm)

namespace Tm
def kind : Tm → Int | mk k _ _ _ => k
def n : Tm → Int | mk _ n _ _ => n
def name : Tm → ByteArray | mk _ _ s _ => s
def args : Tm → List Tm | mk _ _ _ l => l
end Tm

/-- the four cells of a term -/
def TmCells (w : World) (b o : Nat) (t : Tm) (A : Option Addr) (c : Nat) : Prop :=
  w.cell? ⟨b, o, none⟩ = some (.int .i64 t.kind) ∧ w.cell? ⟨b, o + 1, none⟩ = some (.int .i64 t.n) ∧ w.cell? ⟨b, o + 2, none⟩ = some (.string t.name) ∧ w.cell? ⟨b, o + 3, none⟩ = some (.slice A t.args.length c)

/-- a slice of terms, all of whose blocks are among some -/
inductive ArgsAt (w : World) (F : Nat → Prop) : Option Addr → List Tm → Prop
  | nil (A : Option Addr) : ArgsAt w F A []
  | row (b off : Nat) (l : List Tm) (A : Nat → Option Addr) (c : Nat → Nat) (hb : F b) (hl : l.length ≤ 281474976710656)
      (hc : ∀ i x, l[i]? = some x → TmCells w b (off + i * 4) x (A i) (c i))
      (hr : ∀ i x, l[i]? = some x → ArgsAt w F (A i) x.args) : ArgsAt w F (Option.some ⟨b, off, none⟩) l

@[reducible] def Tm.v (t : Tm) (A : Option Addr) (c : Nat) : Value := .agg #[.int .i64 t.kind, .int .i64 t.n, .string t.name, .slice A t.args.length c]

theorem ArgsAt.at {w : World} {F : Nat → Prop} {A : Option Addr} {l : List Tm} (h : ArgsAt w F A l) {i : Nat} (hi : i < l.length) :
    ∃ b off x A' c', A = some ⟨b, off, none⟩ ∧ F b ∧ l[i]? = some x ∧ TmCells w b (off + i * 4) x A' c' ∧ ArgsAt w F A' x.args := by
  cases h with
  | nil => simp at hi
  | row b off l A c hb hl hc hr =>
    have hx : l[i]? = some (l[i]'hi) := List.getElem?_eq_getElem _
    exact ⟨b, off, _, A i, c i, rfl, hb, hx, hc i _ hx, hr i _ hx⟩
theorem ArgsAt.len {w : World} {F : Nat → Prop} {A : Option Addr} {l : List Tm} (h : ArgsAt w F A l) : l.length ≤ 281474976710656 := by
  cases h with
  | nil => simp
  | row b off l A c hb hl hc hr => exact hl
theorem ArgsAt.keep {w w' : World} {F G : Nat → Prop} {A : Option Addr} {l : List Tm} (h : ArgsAt w F A l) (hk : ∀ b, F b → w'.heap[b]? = w.heap[b]?) (hG : ∀ b, F b → G b) : ArgsAt w' G A l := by
  induction h with
  | nil A => exact .nil A
  | row b off l A c hb hl hc hr ih =>
    refine .row b off l A c (hG b hb) hl (fun i x hx => ?_) ih
    obtain ⟨h0, h1, h2, h3⟩ := hc i x hx
    have hcell : ∀ o, w'.cell? ⟨b, o, none⟩ = w.cell? ⟨b, o, none⟩ := fun o => World.cell?_of_block (w := w) (w' := w') (a := ⟨b, o, none⟩) (hk b hb)
    exact ⟨(hcell _).trans h0, (hcell _).trans h1, (hcell _).trans h2, (hcell _).trans h3⟩
/-- the blocks of a world that were there -/
@[reducible] def Old (B : Nat) : Nat → Prop := fun b => b < B
theorem ArgsAt.later {w w' : World} {B : Nat} {A : Option Addr} {l : List Tm} (h : ArgsAt w (Old B) A l) (hb : Below B w w') : ArgsAt w' (Old B) A l :=
  h.keep (fun b hlt => hb.block b hlt) (fun _ h => h)
theorem ArgsAt.more {w : World} {B B' : Nat} {A : Option Addr} {l : List Tm} (h : ArgsAt w (Old B) A l) (hB : B ≤ B') : ArgsAt w (Old B') A l :=
  h.keep (fun _ _ => rfl) (fun _ hb => Nat.lt_of_lt_of_le hb hB)
theorem TmCells.below {w w' : World} {B b o : Nat} {t : Tm} {A : Option Addr} {c : Nat} (h : TmCells w b o t A c) (hB : b < B) (hb : Below B w w') : TmCells w' b o t A c :=
  ⟨(hb.cell (p := ⟨b, _, none⟩) hB).trans h.1, (hb.cell (p := ⟨b, _, none⟩) hB).trans h.2.1, (hb.cell (p := ⟨b, _, none⟩) hB).trans h.2.2.1, (hb.cell (p := ⟨b, _, none⟩) hB).trans h.2.2.2⟩

/-- the number of nodes -/
def cnt : Tm → Nat
  | .mk _ _ _ l => 1 + go l
where go : List Tm → Nat
  | [] => 0
  | x :: r => cnt x + go r
/-- the number of nodes of the first elements -/
def cntTo (l : List Tm) (i : Nat) : Nat := cnt.go (l.take i)
theorem cnt_go_append (a b : List Tm) : cnt.go (a ++ b) = cnt.go a + cnt.go b := by
  induction a with
  | nil => simp [cnt.go]
  | cons x r ih => simp [cnt.go, ih]; omega
theorem cntTo_zero (l : List Tm) : cntTo l 0 = 0 := by simp [cntTo, cnt.go]
theorem cntTo_next {l : List Tm} {i : Nat} {x : Tm} (h : l[i]? = some x) : cntTo l (i + 1) = cntTo l i + cnt x := by
  unfold cntTo
  rw [List.take_add_one, h]
  simp [cnt_go_append, cnt.go]
theorem cntTo_le (l : List Tm) (i : Nat) : cntTo l i ≤ cnt.go l := by
  have := cnt_go_append (l.take i) (l.drop i)
  rw [List.take_append_drop] at this
  unfold cntTo; omega
theorem cntTo_all {l : List Tm} {i : Nat} (h : l.length ≤ i) : cntTo l i = cnt.go l := by
  unfold cntTo; rw [List.take_of_length_le h]
theorem cnt_eq (t : Tm) : cnt t = 1 + cnt.go t.args := by
  cases t; rfl
theorem Tm.lt_of_at {t x : Tm} {i : Nat} (h : t.args[i]? = some x) : cnt x < cnt t := by
  have h1 := cntTo_next h
  have h2 := cntTo_le t.args (i + 1)
  rw [cnt_eq t]
  omega
theorem cnt_pos (t : Tm) : 1 ≤ cnt t := by rw [cnt_eq]; omega

/-- whether a node is valid, apart from its arguments -/
def nodeB (kind n : Int) (name : ByteArray) (k : Nat) : Bool :=
  if kind == 0 then decide (0 ≤ n) && decide (n ≤ 1099511627776) && name.toList.isEmpty && ((k : Int) == 0)
  else if kind == 1 then name.toList.isEmpty && ((k : Int) == 0)
  else if kind == 2 then n == 0 && decide ((name.size : Int) ≤ 100) && ((k : Int) == 0)
  else if kind == 3 then n == 0 && decide ((name.size : Int) ≤ 100) && decide (1 ≤ (k : Int)) && decide ((k : Int) ≤ 8)
  else false
/-- whether all nodes are valid -/
def okT : Tm → Bool
  | .mk k n s l => nodeB k n s l.length && go l
where go : List Tm → Bool
  | [] => true
  | x :: r => okT x && go r
def okTo (l : List Tm) (i : Nat) : Bool := okT.go (l.take i)
theorem okT_go_append (a b : List Tm) : okT.go (a ++ b) = (okT.go a && okT.go b) := by
  induction a with
  | nil => simp [okT.go]
  | cons x r ih => simp [okT.go, ih, Bool.and_assoc]
theorem okTo_zero (l : List Tm) : okTo l 0 = true := by simp [okTo, okT.go]
theorem okTo_next {l : List Tm} {i : Nat} {x : Tm} (h : l[i]? = some x) : okTo l (i + 1) = (okTo l i && okT x) := by
  unfold okTo
  rw [List.take_add_one, h]
  simp [okT_go_append, okT.go]
theorem okTo_false {l : List Tm} {i : Nat} (h : okTo l i = false) : okT.go l = false := by
  have := okT_go_append (l.take i) (l.drop i)
  rw [List.take_append_drop] at this
  unfold okTo at h; rw [this, h]; rfl
theorem okTo_all {l : List Tm} {i : Nat} (h : l.length ≤ i) : okTo l i = okT.go l := by
  unfold okTo; rw [List.take_of_length_le h]
theorem okT_eq (t : Tm) : okT t = (nodeB t.kind t.n t.name t.args.length && okT.go t.args) := by
  cases t; rfl
/-- a valid term -/
def validT (t : Tm) : Bool := decide (cnt t ≤ 2000) && okT t
end Go.Proofs.YtcagaaacfcpoeaaGreat
