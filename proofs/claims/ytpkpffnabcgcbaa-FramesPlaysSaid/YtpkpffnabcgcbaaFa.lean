/-
  Small laws on memory: blocks; cells, environments, choice points as rows that are owned; stacks behind a pointer.
-/
import Derived.WalkKit
import Derived.WalkSpells
import Derived.Deep.Draws
import Derived.Lib.Hide
import Derived.OwnWalk
import Derived.Maps.AppendAt
import Derived.Deep.AppendLies
import Derived.Test.YtpkpffnabcgcbaaProg
namespace Go.Proofs.Ytpkpffnabcgcbaa
open Go.RowKit

theorem bNext {W w1 w2 : World} (h : Below W.heap.size W w1) (k : Below w1.heap.size w1 w2) : Below W.heap.size W w2 := h.trans (k.mono h.size)
theorem bAlloc (w : World) (o : Obj) : Below w.heap.size w (w.alloc o) := (Below.refl _ _).alloc (Nat.le_refl _) _
theorem bDrewN {B : Nat} {w w1 : World} (h : Below B w w1) (n : Nat) : Below B w (w1.drewN n) := ⟨h.os, h.tape, h.output, h.size, h.block⟩
theorem bDrew (w : World) : Below w.heap.size w w.drew := ⟨rfl, rfl, rfl, Nat.le_refl _, fun _ _ => rfl⟩
theorem ret_bool {a b : Bool} (h : a = b) : Ending.returned (.bool a) = .returned (.bool b) := by rw [h]
theorem ret_int {k : IntKind} {a b : Int} (h : a = b) : Ending.returned (.int k a) = .returned (.int k b) := by rw [h]
theorem ret_slice {A : Option Addr} {a b c : Nat} (h : a = b) : Ending.returned (.slice A a c) = .returned (.slice A b c) := by rw [h]
/-- a block of cells that can be written -/
def Blk (w : World) (g : Nat) (t : TypeId) (cs : Array Value) : Prop := w.heap[g]? = some (.cells cs t (0, 0))
section
variable {w w' : World} {g : Nat} {t : TypeId} {cs : Array Value}
theorem Blk.lt (h : Blk w g t cs) : g < w.heap.size := by
  rcases Nat.lt_or_ge g w.heap.size with h' | h'
  · exact h'
  · unfold Blk at h; rw [Array.getElem?_eq_none h'] at h; cases h
theorem Blk.cell (h : Blk w g t cs) (i : Nat) : w.cell? ⟨g, i, none⟩ = cs[i]? := cell_of_row w g i cs t (0, 0) h
theorem Blk.frozen (h : Blk w g t cs) (i : Nat) : w.frozen? ⟨g, i, none⟩ = false := frozen_of_row w g i cs t h
theorem Blk.new (w : World) (t : TypeId) (cs : Array Value) : Blk (w.alloc (.cells cs t)) w.heap.size t cs := heap_alloc_new w _
theorem Blk.alloc (h : Blk w g t cs) (o : Obj) : Blk (w.alloc o) g t cs := (Below.heap_alloc w o g h.lt).trans h
theorem Blk.below {B : Nat} (h : Blk w g t cs) (hb : Below B w w') (hg : g < B) : Blk w' g t cs := (hb.block g hg).trans h
theorem Blk.next (h : Blk w g t cs) (hb : Below w.heap.size w w') : Blk w' g t cs := h.below hb h.lt
theorem Blk.grown {row : Option Nat} (h : Blk w g t cs) (hb : w.grownBy w' row) (hg : row ≠ some g) : Blk w' g t cs := (hb.block g h.lt (fun e => hg e.symm)).trans h
theorem Blk.set_ (h : Blk w g t cs) (i : Nat) (u : Value) : Blk (w.setCell ⟨g, i, none⟩ u) g t (cs.setIfInBounds i u) := heap_setCell_same w g i cs t u h
theorem Blk.far (h : Blk w g t cs) {p : Addr} (hp : g ≠ p.block) (u : Value) : Blk (w.setCell p u) g t cs := (heap_setCell_other w p g u hp).trans h
end
section
variable {w w' : World} {base n e size : Nat} {v : Value} {xs : List Value}
/-- a slice's capacity -/
def CapOk (A : Option Addr) (n c : Nat) : Prop := n ≤ c ∧ (A = none → c = 0)
theorem own_form (h : w.ownsRow base e size v n xs) : ∃ A c, v = .slice A n c ∧ CapOk A n c := by
  rcases h.2 with ⟨rfl, rfl⟩ | ⟨g, cap, cur, rfl, _, _, hc, _⟩
  · exact ⟨_, _, rfl, Nat.le_refl _, fun _ => rfl⟩
  · exact ⟨_, _, rfl, hc, fun e => by cases e⟩
theorem own_stay (h : w.ownsRow base e size v n xs) (hk : ∀ g, v.ownBlock = some g → w'.heap[g]? = w.heap[g]?) : w'.ownsRow base e size v n xs := by
  refine ⟨h.1, ?_⟩
  rcases h.2 with h2 | ⟨g, cap, cur, hv, hg, hh, r⟩
  · exact .inl h2
  · exact .inr ⟨g, cap, cur, hv, hg, (hk g (by rw [hv]; rfl)).trans hh, r⟩
theorem own_ty (h : w.ownsRow base e size v n xs) {g : Nat} (hg : v.ownBlock = some g) : ∃ cs, w.heap[g]? = some (.cells cs e (0, 0)) := by
  rcases h.2 with ⟨rfl, rfl⟩ | ⟨g', cap, cur, rfl, _, hh, _⟩
  · simp [Value.ownBlock] at hg
  · simp [Value.ownBlock] at hg; subst hg; exact ⟨cur, hh⟩
theorem own_head (h : w.ownsRow base e size v n xs) (hn : 0 < n) : ∃ g cap, v = .slice (some ⟨g, 0, none⟩) n cap := by
  rcases h.2 with ⟨rfl, h0⟩ | ⟨g, cap, cur, rfl, _⟩
  · omega
  · exact ⟨_, _, rfl⟩
theorem own_base {base' : Nat} (h : w.ownsRow base e size v n xs) (hb : base' ≤ base) : w.ownsRow base' e size v n xs :=
  ⟨h.1, h.2.elim Or.inl fun ⟨g, cap, cur, hv, hg, r⟩ => Or.inr ⟨g, cap, cur, hv, Nat.le_trans hb hg, r⟩⟩
/-- a row cut short -/
theorem own_cut {A : Option Addr} {c : Nat} (h : w.ownsRow base e size (.slice A n c) n xs) {m : Nat} (hm : m ≤ n) : w.ownsRow base e size (.slice A m c) m (xs.take (m * size)) := by
  have hle : m * size ≤ n * size := Nat.mul_le_mul_right _ hm
  refine ⟨by rw [List.length_take, h.1]; omega, ?_⟩
  rcases h.2 with ⟨h1, h0⟩ | ⟨g, cap, cur, hv, hg, hh, hc, hcm, hcs, ht⟩
  · injection h1 with h1 h2 h3
    subst h1 h3
    exact .inl ⟨by rw [show m = 0 by omega], by omega⟩
  · injection hv with h1 h2 h3
    subst h1 h3
    refine .inr ⟨g, c, cur, rfl, hg, hh, by omega, hcm, hcs, ?_⟩
    rw [← ht, List.take_take]
    congr 1
    omega
theorem own_cell {g cap : Nat} (h : w.ownsRow base e size (.slice (some ⟨g, 0, none⟩) n cap) n xs) {j : Nat} {u : Value} (hj : xs[j]? = some u) : w.cell? ⟨g, j, none⟩ = some u := by
  have := h.cells (g := g) rfl j u hj
  cases j with
  | zero => simpa [Addr.add] using this
  | succ j => simpa [Addr.add] using this
end

/-- a cell, an environment, a choice point, stacks -/
structure Cl where
  tag : Int
  n : Int
structure En where
  prev : Int
  id : Int
  pc : Int
  y : List Cl
structure Ch where
  kind : Int
  args : List Cl
  env : Int
  id : Int
  pc : Int
  cut : Int
  mark : Int
  top : Int
  envs : Int
  alts : List Int
  data : Int
structure St where
  envs : List En
  e : Int
  chs : List Ch
def cCs : List Cl → List Value
  | [] => []
  | x :: l => .int .i64 x.tag :: .int .i64 x.n :: cCs l
def iCs (l : List Int) : List Value := l.map (.int .i64)
/-- the cells of environments, whose lists are the given values -/
def eCs : List En → List Value → List Value
  | x :: l, v :: vs => .int .i64 x.prev :: .int .i64 x.id :: .int .i64 x.pc :: v :: eCs l vs
  | _, _ => []
def hCs : List Ch → List (Value × Value) → List Value
  | x :: l, v :: vs => .int .i64 x.kind :: v.1 :: .int .i64 x.env :: .int .i64 x.id :: .int .i64 x.pc :: .int .i64 x.cut :: .int .i64 x.mark :: .int .i64 x.top :: .int .i64 x.envs :: v.2 :: .int .i64 x.data :: hCs l vs
  | _, _ => []
theorem cCs_len (l : List Cl) : (cCs l).length = l.length * 2 := by
  induction l with
  | nil => rfl
  | cons x t ih => simp only [cCs, List.length_cons, ih]; omega
theorem eCs_len : ∀ (l : List En) (vs : List Value), vs.length = l.length → (eCs l vs).length = l.length * 4
  | [], [], _ => rfl
  | x :: l, v :: vs, h => by
    simp only [eCs, List.length_cons] at h ⊢
    rw [eCs_len l vs (by omega)]
    omega
theorem hCs_len : ∀ (l : List Ch) (vs : List (Value × Value)), vs.length = l.length → (hCs l vs).length = l.length * 11
  | [], [], _ => rfl
  | x :: l, v :: vs, h => by
    simp only [hCs, List.length_cons] at h ⊢
    rw [hCs_len l vs (by omega)]
    omega
theorem cCs_at {l : List Cl} {i : Nat} {x : Cl} (h : l[i]? = some x) : (cCs l)[i * 2]? = some (.int .i64 x.tag) ∧ (cCs l)[i * 2 + 1]? = some (.int .i64 x.n) := by
  induction l generalizing i with
  | nil => simp at h
  | cons y t ih =>
    cases i with
    | zero => simp at h; subst h; simp [cCs]
    | succ i =>
      simp at h
      have := ih h
      rw [show (i + 1) * 2 = i * 2 + 1 + 1 by omega]
      simpa [cCs] using this
theorem eCs_at : ∀ {l : List En} {vs : List Value} {i : Nat} {x : En} {v : Value}, l[i]? = some x → vs[i]? = some v →
    (eCs l vs)[i * 4]? = some (.int .i64 x.prev) ∧ (eCs l vs)[i * 4 + 1]? = some (.int .i64 x.id) ∧ (eCs l vs)[i * 4 + 2]? = some (.int .i64 x.pc) ∧ (eCs l vs)[i * 4 + 3]? = some v
  | [], _, _, _, _, h, _ => by simp at h
  | _ :: _, [], _, _, _, _, h => by simp at h
  | y :: l, u :: vs, 0, x, v, h, hv => by simp at h hv; subst h hv; simp [eCs]
  | y :: l, u :: vs, i + 1, x, v, h, hv => by
    simp at h hv
    have := eCs_at h hv
    rw [show (i + 1) * 4 = i * 4 + 1 + 1 + 1 + 1 by omega]
    simpa [eCs] using this
theorem hCs_at : ∀ {l : List Ch} {vs : List (Value × Value)} {i : Nat} {x : Ch} {v : Value × Value}, l[i]? = some x → vs[i]? = some v →
    (hCs l vs)[i * 11]? = some (.int .i64 x.kind) ∧ (hCs l vs)[i * 11 + 1]? = some v.1 ∧ (hCs l vs)[i * 11 + 2]? = some (.int .i64 x.env) ∧ (hCs l vs)[i * 11 + 3]? = some (.int .i64 x.id) ∧ (hCs l vs)[i * 11 + 4]? = some (.int .i64 x.pc) ∧
    (hCs l vs)[i * 11 + 5]? = some (.int .i64 x.cut) ∧ (hCs l vs)[i * 11 + 6]? = some (.int .i64 x.mark) ∧ (hCs l vs)[i * 11 + 7]? = some (.int .i64 x.top) ∧ (hCs l vs)[i * 11 + 8]? = some (.int .i64 x.envs) ∧ (hCs l vs)[i * 11 + 9]? = some v.2 ∧ (hCs l vs)[i * 11 + 10]? = some (.int .i64 x.data)
  | [], _, _, _, _, h, _ => by simp at h
  | _ :: _, [], _, _, _, _, h => by simp at h
  | y :: l, u :: vs, 0, x, v, h, hv => by simp at h hv; subst h hv; simp [hCs]
  | y :: l, u :: vs, i + 1, x, v, h, hv => by
    simp at h hv
    have := hCs_at h hv
    rw [show (i + 1) * 11 = i * 11 + 1 + 1 + 1 + 1 + 1 + 1 + 1 + 1 + 1 + 1 + 1 by omega]
    simpa [hCs] using this
theorem eCs_take : ∀ (l : List En) (vs : List Value) (n : Nat), vs.length = l.length → (eCs l vs).take (n * 4) = eCs (l.take n) (vs.take n)
  | [], _, n, _ => by simp [eCs]
  | x :: l, v :: vs, 0, _ => by simp [eCs]
  | x :: l, v :: vs, n + 1, h => by
    rw [show (n + 1) * 4 = n * 4 + 1 + 1 + 1 + 1 by omega]
    simp only [eCs, List.take_succ_cons]
    rw [eCs_take l vs n (by simpa using h)]
theorem hCs_take : ∀ (l : List Ch) (vs : List (Value × Value)) (n : Nat), vs.length = l.length → (hCs l vs).take (n * 11) = hCs (l.take n) (vs.take n)
  | [], _, n, _ => by simp [hCs]
  | x :: l, v :: vs, 0, _ => by simp [hCs]
  | x :: l, v :: vs, n + 1, h => by
    rw [show (n + 1) * 11 = n * 11 + 1 + 1 + 1 + 1 + 1 + 1 + 1 + 1 + 1 + 1 + 1 by omega]
    simp only [hCs, List.take_succ_cons]
    rw [hCs_take l vs n (by simpa using h)]
theorem eCs_app : ∀ (l m : List En) (vs us : List Value), vs.length = l.length → eCs (l ++ m) (vs ++ us) = eCs l vs ++ eCs m us
  | [], m, [], us, _ => rfl
  | x :: l, m, v :: vs, us, h => by
    simp only [List.cons_append, eCs]
    rw [eCs_app l m vs us (by simpa using h)]
theorem hCs_app : ∀ (l m : List Ch) (vs us : List (Value × Value)), vs.length = l.length → hCs (l ++ m) (vs ++ us) = hCs l vs ++ hCs m us
  | [], m, [], us, _ => rfl
  | x :: l, m, v :: vs, us, h => by
    simp only [List.cons_append, hCs]
    rw [hCs_app l m vs us (by simpa using h)]
theorem cCs_app (l m : List Cl) : cCs (l ++ m) = cCs l ++ cCs m := by
  induction l with
  | nil => rfl
  | cons x t ih => simp only [List.cons_append, cCs, ih]
theorem cCs_take : ∀ (l : List Cl) (n : Nat), (cCs l).take (n * 2) = cCs (l.take n)
  | [], n => by simp [cCs]
  | x :: l, 0 => by simp [cCs]
  | x :: l, n + 1 => by
    rw [show (n + 1) * 2 = n * 2 + 1 + 1 by omega]
    simp only [cCs, List.take_succ_cons]
    rw [cCs_take l n]

/-- the blocks of rows -/
def blks (l : List Value) : List Nat := l.filterMap Value.ownBlock
/-- what the stacks behind a pointer are made of: the box, the two rows, the lists of the environments, those of the choice points -/
structure Stk (w : World) (B p : Nat) (s : St) (ve vc : Value) (ys : List Value) (cs : List (Value × Value)) : Prop where
  box : Blk w p 25 #[ve, .int .i64 s.e, vc]
  low : B ≤ p
  envs : w.ownsRow B 54 4 ve s.envs.length (eCs s.envs ys)
  chs : w.ownsRow B 29 11 vc s.chs.length (hCs s.chs cs)
  ylen : ys.length = s.envs.length
  clen : cs.length = s.chs.length
  yrow : ∀ (i : Nat) x v, s.envs[i]? = some x → ys[i]? = some v → w.ownsRow B 38 2 v x.y.length (cCs x.y)
  crow : ∀ (i : Nat) x v, s.chs[i]? = some x → cs[i]? = some v → w.ownsRow B 38 2 v.1 x.args.length (cCs x.args) ∧ w.ownsRow B 2 1 v.2 x.alts.length (iCs x.alts)
  nodup : (blks (ys ++ cs.map (·.1) ++ cs.map (·.2))).Nodup
section
variable {w w' : World} {B p : Nat} {s : St} {ve vc : Value} {ys : List Value} {cs : List (Value × Value)}
/-- the stacks stay where their blocks stay -/
theorem Stk.stay (h : Stk w B p s ve vc ys cs) (hk : ∀ g, B ≤ g → g < w.heap.size → w'.heap[g]? = w.heap[g]?) : Stk w' B p s ve vc ys cs := by
  have ho : ∀ {t size n : Nat} {v : Value} {xs : List Value}, w.ownsRow B t size v n xs → w'.ownsRow B t size v n xs := fun h1 => own_stay h1 fun g hg => hk g (h1.lt g hg).1 (h1.lt g hg).2
  exact ⟨(hk p h.low h.box.lt).trans h.box, h.low, ho h.envs, ho h.chs, h.ylen, h.clen, fun i x v hx hv => ho (h.yrow i x v hx hv), fun i x v hx hv => ⟨ho (h.crow i x v hx hv).1, ho (h.crow i x v hx hv).2⟩, h.nodup⟩
theorem Stk.next (h : Stk w B p s ve vc ys cs) (hb : Below w.heap.size w w') : Stk w' B p s ve vc ys cs := h.stay fun g _ hg => hb.block g hg
theorem Stk.cells (h : Stk w B p s ve vc ys cs) : w.cell? ⟨p, 0, none⟩ = some ve ∧ w.cell? ⟨p, 1, none⟩ = some (.int .i64 s.e) ∧ w.cell? ⟨p, 2, none⟩ = some vc := by
  have h0 := h.box.cell 0
  have h1 := h.box.cell 1
  have h2 := h.box.cell 2
  simp at h0 h1 h2
  exact ⟨h0, h1, h2⟩
/-- a choice point's cells -/
theorem Stk.chAt (h : Stk w B p s ve vc ys cs) {i : Nat} {x : Ch} (hx : s.chs[i]? = some x) : ∃ g cap v, vc = .slice (some ⟨g, 0, none⟩) s.chs.length cap ∧ s.chs.length ≤ cap ∧ cs[i]? = some v ∧
    w.cell? ⟨g, i * 11, none⟩ = some (.int .i64 x.kind) ∧ w.cell? ⟨g, i * 11 + 1, none⟩ = some v.1 ∧ w.cell? ⟨g, i * 11 + 2, none⟩ = some (.int .i64 x.env) ∧ w.cell? ⟨g, i * 11 + 3, none⟩ = some (.int .i64 x.id) ∧ w.cell? ⟨g, i * 11 + 4, none⟩ = some (.int .i64 x.pc) ∧
    w.cell? ⟨g, i * 11 + 5, none⟩ = some (.int .i64 x.cut) ∧ w.cell? ⟨g, i * 11 + 6, none⟩ = some (.int .i64 x.mark) ∧ w.cell? ⟨g, i * 11 + 7, none⟩ = some (.int .i64 x.top) ∧ w.cell? ⟨g, i * 11 + 8, none⟩ = some (.int .i64 x.envs) ∧ w.cell? ⟨g, i * 11 + 9, none⟩ = some v.2 ∧ w.cell? ⟨g, i * 11 + 10, none⟩ = some (.int .i64 x.data) := by
  have hlt := (List.getElem?_eq_some_iff.1 hx).1
  have h1 := h.chs
  obtain ⟨g, cap, rfl⟩ := own_head h1 (by omega)
  obtain ⟨A, c, e, hc, -⟩ := own_form h1
  injection e with _ _ e
  subst e
  have hv : cs[i]? = some (cs[i]'(by rw [h.clen]; exact hlt)) := List.getElem?_eq_getElem _
  obtain ⟨r0, r1, r2, r3, r4, r5, r6, r7, r8, r9, r10⟩ := hCs_at hx hv
  exact ⟨g, cap, _, rfl, hc, hv, own_cell h1 r0, own_cell h1 r1, own_cell h1 r2, own_cell h1 r3, own_cell h1 r4, own_cell h1 r5, own_cell h1 r6, own_cell h1 r7, own_cell h1 r8, own_cell h1 r9, own_cell h1 r10⟩
/-- an environment's cells -/
theorem Stk.enAt (h : Stk w B p s ve vc ys cs) {i : Nat} {x : En} (hx : s.envs[i]? = some x) : ∃ g cap v, ve = .slice (some ⟨g, 0, none⟩) s.envs.length cap ∧ s.envs.length ≤ cap ∧ ys[i]? = some v ∧ w.ownsRow B 38 2 v x.y.length (cCs x.y) ∧
    w.cell? ⟨g, i * 4, none⟩ = some (.int .i64 x.prev) ∧ w.cell? ⟨g, i * 4 + 1, none⟩ = some (.int .i64 x.id) ∧ w.cell? ⟨g, i * 4 + 2, none⟩ = some (.int .i64 x.pc) ∧ w.cell? ⟨g, i * 4 + 3, none⟩ = some v := by
  have hlt := (List.getElem?_eq_some_iff.1 hx).1
  have h1 := h.envs
  obtain ⟨g, cap, rfl⟩ := own_head h1 (by omega)
  obtain ⟨A, c, e, hc, -⟩ := own_form h1
  injection e with _ _ e
  subst e
  have hv : ys[i]? = some (ys[i]'(by rw [h.ylen]; exact hlt)) := List.getElem?_eq_getElem _
  obtain ⟨r0, r1, r2, r3⟩ := eCs_at hx hv
  exact ⟨g, cap, _, rfl, hc, hv, h.yrow i x _ hx hv, own_cell h1 r0, own_cell h1 r1, own_cell h1 r2, own_cell h1 r3⟩
end
end Go.Proofs.Ytpkpffnabcgcbaa
