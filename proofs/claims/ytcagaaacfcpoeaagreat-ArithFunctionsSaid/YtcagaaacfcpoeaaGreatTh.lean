/-
  A row of new terms that a call owns, each with memory of its own; how it grows.
-/
import Derived.Test.YtcagaaacfcpoeaaGreatTc
namespace Go.Proofs.YtcagaaacfcpoeaaGreat
open Go.RowKit

/-- a term with the address and the capacity of its arguments -/
abbrev Tr := Tm × Option Addr × Nat
@[reducible] def Tr.cs (r : Tr) : List Value := [.int .i64 r.1.kind, .int .i64 r.1.n, .string r.1.name, .slice r.2.1 r.1.args.length r.2.2]
/-- the cells of terms -/
def tmCs : List Tr → List Value
  | [] => []
  | r :: l => .int .i64 r.1.kind :: .int .i64 r.1.n :: .string r.1.name :: .slice r.2.1 r.1.args.length r.2.2 :: tmCs l
theorem tmCs_snoc (l : List Tr) (r : Tr) : tmCs (l ++ [r]) = tmCs l ++ r.cs := by
  induction l with
  | nil => rfl
  | cons x t ih => simp only [List.cons_append, tmCs, ih]
theorem tmCs_len (l : List Tr) : (tmCs l).length = l.length * 4 := by
  induction l with
  | nil => rfl
  | cons x t ih => simp only [tmCs, List.length_cons, ih]; omega
theorem tmCs_at {l : List Tr} {i : Nat} {r : Tr} (h : l[i]? = some r) : (tmCs l)[i * 4]? = some (.int .i64 r.1.kind) ∧ (tmCs l)[i * 4 + 1]? = some (.int .i64 r.1.n) ∧ (tmCs l)[i * 4 + 2]? = some (.string r.1.name) ∧ (tmCs l)[i * 4 + 3]? = some (.slice r.2.1 r.1.args.length r.2.2) := by
  induction l generalizing i with
  | nil => simp at h
  | cons x t ih =>
    cases i with
    | zero => simp at h; subst h; simp [tmCs]
    | succ i =>
      simp at h
      have := ih h
      rw [show (i + 1) * 4 = i * 4 + 1 + 1 + 1 + 1 by omega]
      simpa [tmCs] using this

/-- the blocks of what hangs on a row -/
@[reducible] def Hang (B : Nat) (w : World) (v : Value) : Nat → Prop := fun b => B ≤ b ∧ b < w.heap.size ∧ v.ownBlock ≠ some b
structure Mk (w : World) (B : Nat) (v : Value) (rs : List Tr) : Prop where
  own : w.ownsRow B 24 4 v rs.length (tmCs rs)
  sub : ∀ r ∈ rs, ArgsAt w (Hang B w v) r.2.1 r.1.args

theorem Mk.nil (w : World) (B : Nat) : Mk w B (.slice none 0 0) [] := ⟨World.ownsRow_nil _ _ _ _, fun r hr => by simp at hr⟩
/-- a further term: the call that made it (w2), the box (o), the append (w3) -/
theorem Mk.app {w w2 w3 : World} {B : Nat} {v v' : Value} {rs : List Tr} (h : Mk w B v rs) {r : Tr} {o : Obj} (hb : Below w.heap.size w w2) (hr : ArgsAt w2 (fun b => w.heap.size ≤ b ∧ b < w2.heap.size) r.2.1 r.1.args) (hB : B ≤ w.heap.size)
    (ho : w3.ownsRow B 24 4 v' (rs.length + 1) (tmCs rs ++ r.cs)) (hg : (w2.alloc o).grownBy w3 v.ownBlock) (hat : v'.ownBlock = v.ownBlock ∨ v'.ownBlock = some (w2.alloc o).heap.size) : Mk w3 B v' (rs ++ [r]) := by
  have z1 := hb.size
  have z2 := hg.size
  simp at z2
  refine ⟨by rw [tmCs_snoc, List.length_append]; exact ho, fun x hx => ?_⟩
  rcases List.mem_append.1 hx with hx | hx
  · refine (h.sub x hx).keep (fun b hF => ?_) (fun b hF => ⟨hF.1, by omega, fun e => ?_⟩)
    · have := hF.2.1
      rw [hg.block b (by simp; omega) (fun e => hF.2.2 e.symm), Below.heap_alloc w2 o b (by omega), hb.block b hF.2.1]
    · rcases hat with e2 | e2
      · exact hF.2.2 (e2.symm.trans e)
      · rw [e] at e2; injection e2 with e2; simp at e2; have := hF.2.1; omega
  · simp at hx
    subst hx
    refine hr.keep (fun b hF => ?_) (fun b hF => ⟨by have := hF.1; omega, by have := hF.2; omega, fun e => ?_⟩)
    · rw [hg.block b (by have := hF.2; simp; omega) (fun e => ?_), Below.heap_alloc w2 o b hF.2]
      have := (h.own.lt b e.symm).2
      have := hF.1
      omega
    · rcases hat with e2 | e2
      · have := (h.own.lt b (e2.symm.trans e)).2
        have := hF.1
        omega
      · rw [e] at e2; injection e2 with e2; simp at e2; have := hF.2; omega
/-- blocks below the base may change -/
theorem Mk.stay {w w' : World} {B : Nat} {v : Value} {rs : List Tr} (h : Mk w B v rs) (hk : ∀ b, B ≤ b → b < w.heap.size → w'.heap[b]? = w.heap[b]?) (hz : w.heap.size ≤ w'.heap.size) : Mk w' B v rs :=
  ⟨own_stay h.own (fun g hg => hk g (h.own.lt g hg).1 (h.own.lt g hg).2), fun r hr => (h.sub r hr).keep (fun b hF => hk b hF.1 hF.2.1) (fun _ hF => ⟨hF.1, Nat.lt_of_lt_of_le hF.2.1 hz, hF.2.2⟩)⟩
theorem Mk.base {w : World} {B B' : Nat} {v : Value} {rs : List Tr} (h : Mk w B v rs) (hB : B' ≤ B) : Mk w B' v rs :=
  ⟨own_base h.own hB, fun r hr => (h.sub r hr).keep (fun _ _ => rfl) (fun _ hF => ⟨Nat.le_trans hB hF.1, hF.2⟩)⟩
theorem Mk.form {w : World} {B : Nat} {v : Value} {rs : List Tr} (h : Mk w B v rs) : ∃ A c, v = .slice A rs.length c := own_form h.own
/-- it reads as its terms -/
theorem Mk.read {w : World} {B c : Nat} {A : Option Addr} {rs : List Tr} (h : Mk w B (.slice A rs.length c) rs) (hl : rs.length ≤ 281474976710656) : ArgsAt w (fun b => B ≤ b ∧ b < w.heap.size) A (rs.map (·.1)) := by
  rcases Nat.eq_zero_or_pos rs.length with h0 | h0
  · rw [List.eq_nil_of_length_eq_zero h0]; exact .nil _
  obtain ⟨g, cap, e⟩ := own_some h.own h0
  injection e with e1 e2 e3
  subst e1
  obtain ⟨hg1, hg2⟩ := h.own.lt g rfl
  refine .row g 0 _ (fun i => ((rs[i]?).map (·.2.1)).getD none) (fun i => ((rs[i]?).map (·.2.2)).getD 0) ⟨hg1, hg2⟩ (by simpa using hl) ?_ ?_
  · intro i x hx
    rw [List.getElem?_map] at hx
    cases hr : rs[i]? with
    | none => rw [hr] at hx; cases hx
    | some r =>
      rw [hr] at hx
      simp at hx
      subst hx
      obtain ⟨q0, q1, q2, q3⟩ := tmCs_at hr
      have hc : ∀ j u, (tmCs rs)[j]? = some u → w.cell? ⟨g, j, none⟩ = some u := fun j u hj => by
        have := h.own.cells (g := g) rfl j u hj
        rw [← this]
        unfold Addr.add
        by_cases hi : j = 0 <;> simp [hi]
      simp only [Nat.zero_add, TmCells]
      exact ⟨hc _ _ q0, hc _ _ q1, hc _ _ q2, by simpa [hr] using hc _ _ q3⟩
  · intro i x hx
    rw [List.getElem?_map] at hx
    cases hr : rs[i]? with
    | none => rw [hr] at hx; cases hx
    | some r =>
      rw [hr] at hx
      simp at hx
      subst hx
      simpa using (h.sub r (List.mem_of_getElem? hr)).keep (fun _ _ => rfl) (fun _ hF => ⟨hF.1, hF.2.1⟩)
end Go.Proofs.YtcagaaacfcpoeaaGreat
