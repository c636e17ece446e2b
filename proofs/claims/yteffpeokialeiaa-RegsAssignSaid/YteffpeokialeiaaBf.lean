/-
  The state of regs.allocate: plain steps, memory.
-/
import Derived.Test.YteffpeokialeiaaBe
namespace Go.Proofs.Yteffpeokialeiaa
open Go.RowKit

/-! plain -/
def lastOG (base : Int) (f : Int → Option Nat) (k : Nat) (L : List Int) (y : Int) : Option Nat := if decide (base < y) && L.contains y then some k else f y
def lastOFrom (base : Int) : List In → Nat → (Int → Option Nat) → Int → Option Nat
  | [], _, f => f
  | x :: t, k, f => lastOFrom base t (k + 1) (lastOG base f k (rdOf x ++ wrOf x))
def lastO (l : List In) (base : Int) : Int → Option Nat := lastOFrom base l 0 (fun _ => none)
def laOf (l : List In) (base y : Int) : Nat := (lastO l base y).getD 0
theorem last_eq (base : Int) : ∀ (l : List In) (k : Nat) (f : Int → Option Value) (g : Int → Option Nat), (∀ y, f y = (g y).map fun i : Nat => (Value.int .i64 i)) → ∀ y, lastFrom base l k f y = (lastOFrom base l k g y).map fun i : Nat => (Value.int .i64 i)
  | [], _, _, _, h, y => h y
  | x :: t, k, f, g, h, y => by
    refine last_eq base t (k + 1) _ _ (fun z => ?_) y
    unfold lastG lastOG
    split
    · rfl
    · exact h z
theorem lasts_get (l : List In) (base y : Int) : (lastsF l base y).getD (.int .i64 0) = .int .i64 (laOf l base y : Nat) := by
  unfold lastsF laOf lastO
  rw [last_eq base l 0 (fun _ => none) (fun _ => none) (fun _ => rfl) y]
  cases lastOFrom base l 0 (fun _ => none) y <;> rfl
/-- an instruction with its registers renamed -/
def renI (m : List (Int × Int)) (x : In) : In := { x with r := (look m x.r).getD x.r, a := (look m x.a).getD x.a }
/-- the program's allocation of a segment -/
def allocI (la : Int → Nat) (base : Int) : Nat → List In → St → List In → List In × St
  | _, [], s, out => (out, s)
  | k, x :: t, s, out => allocI la base (k + 1) t (instrStep la base k (rdOf x) (wrOf x) s) (out ++ [renI (instrStep la base k (rdOf x) (wrOf x) s).num x])
def st0 (base : Int) : St := ⟨[], [], base + 1, 0, 0⟩
def allocP (l : List In) (base : Int) : List In × St := allocI (laOf l base) base 0 l (st0 base) []
theorem alloc_drop (la : Int → Nat) (base : Int) (l : List In) (s : St) (out : List In) (k : Nat) (x : In) (h : l[k]? = some x) :
    allocI la base k (l.drop k) s out = allocI la base (k + 1) (l.drop (k + 1)) (instrStep la base k (rdOf x) (wrOf x) s) (out ++ [renI (instrStep la base k (rdOf x) (wrOf x) s).num x]) := by
  obtain ⟨hlt, hx⟩ := List.getElem?_eq_some_iff.1 h
  rw [List.drop_eq_getElem_cons hlt, hx]; rfl
theorem ins_len (n : Int) (l : List Int) : (ins n l).length = l.length + 1 := by rw [(perm_ins n l).length_eq]; rfl
theorem tb_release (s : St) (x : Int) : Tb (s.release x) ≤ Tb s + 2 := by
  unfold Tb St.release; simp only [ins_len]; omega
theorem tb_read (la : Int → Nat) (base : Int) (k : Nat) (wr : List Int) (s : St) (x : Int) : Tb (readStep la base k wr s x) ≤ Tb s + 2 := by
  unfold readStep; split
  · exact tb_release s x
  · omega
theorem tb_end (la : Int → Nat) (base : Int) (k : Nat) (s : St) (x : Int) : Tb (endStep la base k s x) ≤ Tb s + 2 := by
  unfold endStep; split
  · exact tb_release s x
  · omega
theorem tb_write (base : Int) (s : St) (x : Int) : Tb (writeStep base s x) ≤ Tb s + 2 := by
  unfold writeStep
  split
  · omega
  · split
    · rename_i h; unfold Tb; rw [h]; simp only [List.length_cons]; omega
    · rename_i h; unfold Tb; rw [h]; simp only [List.length_nil]; omega
theorem tb_fold {f : St → Int → St} (hf : ∀ s x, Tb (f s x) ≤ Tb s + 2) : ∀ (l : List Int) (s : St), Tb (l.foldl f s) ≤ Tb s + 2 * l.length
  | [], s => by simp
  | x :: l, s => by
    rw [List.foldl_cons]
    have h1 := tb_fold hf l (f s x)
    have h2 := hf s x
    simp only [List.length_cons]; omega
theorem wr_len2 (x : In) : (wrOf x).length ≤ 2 := by
  have hs : (sh x.op).2.2.2.data.toList ∈ [[], [114], [97], [114, (97 : UInt8)]] := by
    cases h : okOp x.op with
    | false => rw [sh_out h]; decide
    | true => rcases op_cases h with e | e | e | e | e | e | e | e | e | e | e | e | e | e | e | e | e | e | e | e | e | e | e | e | e <;> rw [e] <;> decide
  unfold wrOf regsOf
  split
  · simp only [List.mem_cons, List.not_mem_nil, or_false] at hs
    rcases hs with h | h | h | h <;> rw [h]
    · simp
    · show ([x.r] : List Int).length ≤ 2; simp
    · show (regStep x [] 97).length ≤ 2; unfold regStep; simp
    · show (regStep x [x.r] 97).length ≤ 2
      unfold regStep
      rw [if_neg (by decide), if_pos rfl]
      split <;> simp
  · simp
theorem tb_step (la : Int → Nat) (base : Int) (k : Nat) (x : In) (s : St) : Tb (instrStep la base k (rdOf x) (wrOf x) s) ≤ Tb s + 16392 := by
  unfold instrStep
  have h1 := tb_fold (tb_read la base k (wrOf x)) (rdOf x) s
  have h2 := tb_fold (tb_write base) (wrOf x) ((rdOf x).foldl (readStep la base k (wrOf x)) s)
  have h3 := tb_fold (tb_end la base k) (wrOf x) (((wrOf x).foldl (writeStep base) ((rdOf x).foldl (readStep la base k (wrOf x)) s)).peak)
  have h4 : ∀ s : St, Tb s.peak = Tb s := fun _ => rfl
  have := rd_len x
  have := wr_len2 x
  rw [h4] at h3
  omega
theorem fold_snoc {α β : Type} {f : β → α → β} {l : List α} {j : Nat} {x : α} (h : l[j]? = some x) (s : β) : (l.take (j + 1)).foldl f s = f ((l.take j).foldl f s) x := by
  rw [List.take_add_one, h]; simp

/-! memory -/
theorem Turn.below {w0 w w' : World} {q : Cfg} {v v' : Value} {B : Nat} (h : Below B w0 w) (ht : Turn w w' q v v') (hB : B ≤ w.heap.size) (h1 : B ≤ q.fb) (h2 : B ≤ q.g) (h3 : B ≤ q.U0) (h4 : ∀ k, v.ownBlock = some k → B ≤ k) : Below B w0 w' :=
  ⟨ht.os.trans h.os, ht.tape.trans h.tape, ht.output.trans h.output, Nat.le_trans h.size ht.size, fun k hk => (ht.block k (by omega) (by omega) (by omega) (by omega) (fun e => by have := h4 k e; omega)).trans (h.block k hk)⟩
/-- a row of another type, or of another time, stays -/
theorem Turn.row_ {w w' : World} {q : Cfg} {v v' : Value} {s : St} (hA : Al w q v s) (ht : Turn w w' q v v') {B m : Nat} {r : Value} {xs : List Value} (ho : w.ownsRow B 3 1 r m xs) (hU : q.U0 < B) (hv : ∀ g, v.ownBlock = some g → g < B) :
    w'.ownsRow B 3 1 r m xs := own_stay ho fun g hg => by
  obtain ⟨hb, hl⟩ := own_lt ho hg
  obtain ⟨cs, hc⟩ := own_ty ho hg
  obtain ⟨⟨h1, h2, h3⟩, h4, ⟨fl, h5, _⟩, _⟩ := hA
  refine ht.block g hl ?_ (fun e => h4.cells (t := 3) (cs := cs) hc e) (by omega) (fun e => by have := hv g e; omega)
  rintro rfl
  have := h5.1
  unfold Blk at this
  rw [this] at hc; injection hc with hc; injection hc with _ h _; exact absurd h (by decide)
theorem Turn.cells {w w' : World} {q : Cfg} {v v' : Value} {s : St} (hA : Al w q v s) (ht : Turn w w' q v v') {b t : Nat} {cs : Array Value} (hb : Blk w b t cs) (h62 : t ≠ 62) (h3 : t ≠ 3) : Blk w' b t cs := by
  obtain ⟨⟨k1, k2, k3⟩, h4, ⟨fl, h5, _⟩, _⟩ := hA
  have ty : ∀ {u : Nat} {ds : Array Value}, Blk w b u ds → t = u := fun h => by
    unfold Blk at h hb
    rw [hb] at h; injection h with h; injection h
  refine (ht.block b hb.lt ?_ (fun e => h4.cells hb e) ?_ ?_).trans hb
  · rintro rfl; exact h62 (ty h5.1)
  · rintro rfl; exact h3 (ty k3)
  · intro e
    obtain ⟨ds, h⟩ := own_ty h5.2 e
    exact h3 (ty h)
/-- the memory of regs.allocate at the head of a round -/
def Ao (w0 wr : World) (q : Cfg) (gl : Nat) (lf : Int → Option Value) (v vo : Value) (s : St) (out : List In) : Prop :=
  Al wr q v s ∧ (MapI wr gl lf ∧ gl ≠ q.g) ∧ wr.ownsRow w0.heap.size 23 6 vo out.length (aCs out) ∧ Below w0.heap.size w0 wr ∧ (w0.heap.size ≤ q.fb ∧ w0.heap.size ≤ q.g ∧ w0.heap.size ≤ q.U0 ∧ w0.heap.size ≤ q.hb)
section
variable {w0 wr w' : World} {q : Cfg} {gl : Nat} {lf : Int → Option Value} {v v' vo : Value} {s s' : St} {out : List In}
theorem Ao.vb (h : Ao w0 wr q gl lf v vo s out) : ∀ k, v.ownBlock = some k → w0.heap.size ≤ k := fun k hk => by
  obtain ⟨⟨_, _, ⟨fl, h5, _⟩, _⟩, _, _, _, h6⟩ := h
  have := (own_lt h5.2 hk).1
  omega
theorem Ao.later (h : Ao w0 wr q gl lf v vo s out) (hb : Below wr.heap.size wr w') : Ao w0 w' q gl lf v vo s out :=
  ⟨h.1.later hb, ⟨h.2.1.1.next hb, h.2.1.2⟩, own_next h.2.2.1 hb, bNext h.2.2.2.1 hb, h.2.2.2.2⟩
theorem Ao.turn (h : Ao w0 wr q gl lf v vo s out) (ht : Turn wr w' q v v') (ha : Al w' q v' s') : Ao w0 w' q gl lf v' vo s' out := by
  have hvb := h.vb
  obtain ⟨h1, ⟨h2, h2'⟩, h3, h4, h5, h6, h7, h8⟩ := h
  obtain ⟨⟨k1, k2, k3⟩, k4, ⟨fl, k5, _⟩, _⟩ := h1
  refine ⟨ha, ⟨h2.stay (ht.block gl h2.lt (fun e => ?_) h2' (fun e => ?_) (fun e => ?_)), h2'⟩, own_stay h3 fun g hg => ?_, Turn.below h4 ht h4.size h5 h6 h7 hvb, h5, h6, h7, h8⟩
  · exact h2.cells k5.1 e.symm
  · exact h2.cells k3 e.symm
  · obtain ⟨cs, hc⟩ := own_ty k5.2 e; exact h2.cells (t := 3) (cs := cs) hc rfl
  · obtain ⟨cs, hc⟩ := own_ty h3 hg
    have hb : Blk wr g 23 cs := hc
    have := Turn.cells ⟨⟨k1, k2, k3⟩, k4, ⟨fl, k5, by assumption⟩, by assumption⟩ ht hb (by decide) (by decide)
    rw [this, hb]
theorem Ao.peak (h : Ao w0 wr q gl lf v vo s out) : Ao w0 wr q gl lf v vo s.peak out := h
end
end Go.Proofs.Yteffpeokialeiaa
