/-
  Walks: the closures of regs.allocate.
-/
import Derived.Test.YteffpeokialeiaaBa
import Derived.Test.YteffpeokialeiaaBc
import Derived.Test.YteffpeokialeiaaPl
import Derived.Outline
namespace Go.Proofs.Yteffpeokialeiaa
open Go.RowKit

/-- the blocks of regs.allocate: the variable of the heap's address, the heap, the variable of the map, the map, the count; where rows may lie -/
structure Cfg where
  F0 : Nat
  fb : Nat
  N0 : Nat
  g : Nat
  U0 : Nat
  hb : Nat
/-- what may turn -/
structure Turn (w w' : World) (q : Cfg) (v v' : Value) : Prop where
  os : w'.os = w.os
  tape : w'.tape = w.tape
  output : w'.output = w.output
  size : w.heap.size ≤ w'.heap.size
  block : ∀ k, k < w.heap.size → k ≠ q.fb → k ≠ q.g → k ≠ q.U0 → v.ownBlock ≠ some k → w'.heap[k]? = w.heap[k]?
  row : v'.ownBlock = v.ownBlock ∨ ∃ g, v'.ownBlock = some g ∧ w.heap.size ≤ g
theorem Turn.refl (w : World) (q : Cfg) (v : Value) : Turn w w q v v := ⟨rfl, rfl, rfl, Nat.le_refl _, fun _ _ _ _ _ _ => rfl, .inl rfl⟩
theorem Turn.trans {a b c : World} {q : Cfg} {v1 v2 v3 : Value} (h : Turn a b q v1 v2) (k : Turn b c q v2 v3) : Turn a c q v1 v3 := by
  refine ⟨k.os.trans h.os, k.tape.trans h.tape, k.output.trans h.output, Nat.le_trans h.size k.size, fun x hx hf hg hu hv => ?_, ?_⟩
  · rw [k.block x (Nat.lt_of_lt_of_le hx h.size) hf hg hu ?_, h.block x hx hf hg hu hv]
    intro e
    rcases h.row with h1 | ⟨g, h1, h2⟩
    · exact hv (h1 ▸ e)
    · rw [h1] at e; injection e with e; omega
  · rcases k.row with h1 | ⟨g, h1, h2⟩
    · rw [h1]; exact h.row
    · exact .inr ⟨g, h1, Nat.le_trans h.size h2⟩
theorem Touch.turn {w w' : World} {q : Cfg} {v v' : Value} (h : Touch w w' q.fb v v') : Turn w w' q v v' := ⟨h.os, h.tape, h.output, h.size, fun k h1 h2 _ _ h5 => h.block k h1 h2 h5, h.row⟩
theorem Below.turn {w w' : World} {q : Cfg} {v : Value} (h : Below w.heap.size w w') : Turn w w' q v v := ⟨h.os, h.tape, h.output, h.size, fun k h1 _ _ _ _ => h.block k h1, .inl rfl⟩
/-- the map of the numbers -/
def numF (m : List (Int × Int)) (y : Int) : Option Value := (look m y).map (.int .i64)
theorem numF_get (m : List (Int × Int)) (y : Int) : (numF m y).getD (.int .i64 0) = .int .i64 ((look m y).getD 0) := by unfold numF; cases look m y <;> rfl
theorem numF_some (m : List (Int × Int)) (y : Int) : (numF m y).isSome = (look m y).isSome := by unfold numF; cases look m y <;> rfl
theorem numF_cons (m : List (Int × Int)) (x v y : Int) : (if y = x then some (Value.int .i64 v) else numF m y) = numF ((x, v) :: m) y := by
  unfold numF
  rw [look_cons]
  by_cases e : y = x
  · subst e; simp
  · rw [if_neg e, if_neg (Ne.symm e)]
/-- the size of a state, for bounds -/
def Tb (s : St) : Nat := s.free.length + s.use.natAbs + s.next.natAbs
/-- the state of regs.allocate in memory -/
def Al (w : World) (q : Cfg) (v : Value) (s : St) : Prop :=
  (Blk w q.F0 61 #[.pointer (some ⟨q.fb, 0, none⟩)] ∧ Blk w q.N0 59 #[.map (some q.g)] ∧ Blk w q.U0 3 #[.int .i64 s.use]) ∧ MapI w q.g (numF s.num) ∧
  (∃ fl, Hp w q.fb q.hb v fl ∧ IsH fl fl.length ∧ fl.Perm s.free ∧ s.free.Pairwise (· ≤ ·)) ∧ (v.ownBlock ≠ some q.U0 ∧ q.hb ≤ w.heap.size)
section
variable {w w' : World} {q : Cfg} {v : Value} {s : St}
theorem Al.later (h : Al w q v s) (hb : Below w.heap.size w w') : Al w' q v s := by
  obtain ⟨⟨h1, h2, h3⟩, h4, ⟨fl, ⟨h5, h6⟩, h7, h8⟩, h9, h10⟩ := h
  exact ⟨⟨h1.next hb, h2.next hb, h3.next hb⟩, h4.next hb, ⟨fl, ⟨h5.next hb, own_next h6 hb⟩, h7, h8⟩, h9, Nat.le_trans h10 hb.size⟩
theorem Al.alloc (h : Al w q v s) (o : Obj) : Al (w.alloc o) q v s := h.later (bAlloc _ _)
/-- the blocks lie apart -/
theorem Al.apart (h : Al w q v s) : (q.F0 ≠ q.fb ∧ q.F0 ≠ q.N0 ∧ q.F0 ≠ q.U0 ∧ q.F0 ≠ q.g) ∧ (q.N0 ≠ q.fb ∧ q.N0 ≠ q.U0 ∧ q.N0 ≠ q.g) ∧ (q.U0 ≠ q.fb ∧ q.U0 ≠ q.g) ∧ q.fb ≠ q.g ∧
    (v.ownBlock ≠ some q.F0 ∧ v.ownBlock ≠ some q.N0 ∧ v.ownBlock ≠ some q.g ∧ v.ownBlock ≠ some q.fb) := by
  obtain ⟨⟨h1, h2, h3⟩, h4, ⟨fl, h5, _⟩, h9, _⟩ := h
  have ty : ∀ {a b t u : Nat} {cs ds : Array Value}, Blk w a t cs → Blk w b u ds → t ≠ u → a ≠ b := fun ha hb hn e => by
    subst e
    unfold Blk at ha hb
    rw [ha] at hb; injection hb with hb; injection hb with _ h _; exact hn h
  have row : ∀ {a t : Nat} {cs : Array Value}, Blk w a t cs → t ≠ 3 → v.ownBlock ≠ some a := fun ha hn e => by
    obtain ⟨cs, h2⟩ := own_ty h5.2 e
    unfold Blk at ha
    rw [ha] at h2; injection h2 with h2; injection h2 with _ h _; exact hn h
  refine ⟨⟨ty h1 h5.1 (by decide), ty h1 h2 (by decide), ty h1 h3 (by decide), h4.cells h1⟩, ⟨ty h2 h5.1 (by decide), ty h2 h3 (by decide), h4.cells h2⟩, ⟨ty h3 h5.1 (by decide), h4.cells h3⟩, h4.cells h5.1, row h1 (by decide), row h2 (by decide), fun e => ?_, row h5.1 (by decide)⟩
  obtain ⟨cs, h2⟩ := own_ty h5.2 e
  exact h4.cells (t := 3) (cs := cs) h2 rfl
theorem Al.lt (h : Al w q v s) : q.F0 < w.heap.size ∧ q.fb < w.heap.size ∧ q.N0 < w.heap.size ∧ q.g < w.heap.size ∧ q.U0 < w.heap.size := by
  obtain ⟨⟨h1, h2, h3⟩, h4, ⟨fl, h5, _⟩, _⟩ := h
  exact ⟨h1.lt, h5.1.lt, h2.lt, h4.lt, h3.lt⟩
end
theorem Al.touch {w w1 : World} {q : Cfg} {v v1 : Value} {s : St} (h : Al w q v s) (ht : Touch w w1 q.fb v v1) {l1 fr : List Int} (hp : Hp w1 q.fb q.hb v1 l1) (hi : IsH l1 l1.length) (hperm : l1.Perm fr)
    (hs : fr.Pairwise (· ≤ ·)) : Al w1 q v1 { s with free := fr } := by
  obtain ⟨⟨a1, a2, a3, a4⟩, ⟨b1, b2, b3⟩, ⟨c1, c2⟩, d1, e1, e2, e3, e4⟩ := h.apart
  obtain ⟨l0, l2, l3, l4, l5⟩ := h.lt
  obtain ⟨⟨h1, h2, h3⟩, h4, _, h9, h10⟩ := h
  refine ⟨⟨(ht.block _ l0 a1 e1).trans h1, (ht.block _ l3 b1 e2).trans h2, (ht.block _ l5 c1 h9).trans h3⟩, h4.stay (ht.block _ l4 (Ne.symm d1) e3), ⟨l1, hp, hi, hperm, hs⟩, ?_, Nat.le_trans h10 ht.size⟩
  rcases ht.row with h | ⟨g, h, hg⟩
  · rw [h]; exact h9
  · rw [h]; intro e; injection e with e; omega
theorem Al.setU {w : World} {q : Cfg} {v : Value} {s : St} (h : Al w q v s) (n : Int) : Al (w.setCell ⟨q.U0, 0, none⟩ (.int .i64 n)) q v { s with use := n } ∧ Turn w (w.setCell ⟨q.U0, 0, none⟩ (.int .i64 n)) q v v := by
  obtain ⟨⟨a1, a2, a3, a4⟩, ⟨b1, b2, b3⟩, ⟨c1, c2⟩, d1, e1, e2, e3, e4⟩ := h.apart
  obtain ⟨⟨h1, h2, h3⟩, h4, ⟨fl, ⟨h5, h6⟩, h7, h8⟩, h9, h10⟩ := h
  refine ⟨⟨⟨h1.far (by show q.F0 ≠ q.U0; exact a3) _, h2.far (by show q.N0 ≠ q.U0; exact b2) _, h3.set_ 0 _⟩, h4.set_ (by show q.g ≠ q.U0; exact Ne.symm c2) _, ⟨fl, ⟨h5.far (by show q.fb ≠ q.U0; exact Ne.symm c1) _, own_stay h6 fun g hg => heap_setCell_other _ _ _ _ (fun e => h9 (by rw [hg]; exact congrArg some e))⟩, h7, h8⟩, h9, by simpa using h10⟩, ?_⟩
  exact ⟨rfl, rfl, rfl, by simp, fun k _ _ _ hk _ => heap_setCell_other _ _ _ _ hk, .inl rfl⟩
def RetAl (w : World) (q : Cfg) (v : Value) (s : St) (e : Ending) (w' : World) : Prop := e = .returned (.tuple #[]) ∧ ∃ v', Al w' q v' s ∧ Turn w w' q v v'
set_option maxRecDepth 100000 in
set_option maxHeartbeats 1000000 in
theorem release_any (q : Cfg) (v : Value) (s : St) (r : Int) (w : World) (h : Al w q v s) (hT : Tb s < 1000000) :
    Calls Try.prog 39 #[.int .i64 r, .pointer (some ⟨q.F0, 0, none⟩), .pointer (some ⟨q.N0, 0, none⟩), .pointer (some ⟨q.U0, 0, none⟩)] w (RetAl w q v (s.release r)) := by
  obtain ⟨⟨h1, h2, h3⟩, h4, ⟨fl, h5, h6, h7, h8⟩, h9, h10⟩ := h
  have H := Lib.hid (show Al w q v s from ⟨⟨h1, h2, h3⟩, h4, ⟨fl, h5, h6, h7, h8⟩, h9, h10⟩)
  have c1 := h1.cell 0
  have c2 := h2.cell 0
  have c3 := h3.cell 0
  have hlk := h4.lookN r
  rw [numF_get] at hlk
  have hl := h7.length_eq
  unfold Tb at hT
  have H5 := Lib.hid h5
  have H6 := Lib.hid h6
  have H7 := Lib.hid (And.intro h7 h8)
  have hfl : fl.length < 1000000 := by omega
  have hu : -1000000 ≤ s.use := by omega
  have hu2 : s.use ≤ 1000000 := by omega
  clear h1 h2 h3 h4 h5 h6 h7 h8 h9 hl hT
  go_enter Try.func39, Try.ntmps39
  go_wp2_with fail
  refine (push_any q.fb q.hb v fl ((look s.num r).getD 0) w H5.out H6.out hfl h10).mono ?_
  rintro e w1 ⟨rfl, v1, l1, hp, ⟨hperm, hh⟩, ht⟩
  have ha := H.out.touch ht hp hh (fr := ins ((look s.num r).getD 0) s.free) (hperm.trans ((H7.out.1.cons _).trans (perm_ins _ _).symm)) (sorted_ins _ _ H7.out.2)
  have HA := Lib.hid ha
  have HT := Lib.hid ht
  obtain ⟨⟨k1, k2, k3⟩, _⟩ := ha
  have d1 := k3.cell 0
  have d2 := k3.frozen 0
  clear hp ht hperm hh k1 k2 k3 c1 c2 c3 hlk
  go_wp2_with fail
  go_end0
  obtain ⟨hx, hy⟩ := HA.out.setU (s.use - 1)
  exact ⟨rfl, v1, hx, HT.out.turn.trans hy⟩
end Go.Proofs.Yteffpeokialeiaa
