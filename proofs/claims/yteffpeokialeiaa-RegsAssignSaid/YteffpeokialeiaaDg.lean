/-
  An append of integers that says where the row lies; two rows side by side.
-/
import Derived.Test.YteffpeokialeiaaDf
import Derived.Test.YteffpeokialeiaaBc
namespace Go.Proofs.Yteffpeokialeiaa
open Go.RowKit

theorem wp_append_ints_at {w : World} {o : Oper} {a : Act} {K' : Act → World → Prop} {Q : Exit → Act → World → Prop} (s x : Operand)
    (ho : o.op = .call { callee := .builtin .append, args := #[s, x], argTypes := #[37, 37] }) (base : Nat) (v : Value) (n : Nat) (xs : List Int) (hs : a.eval s = v) (hown : w.ownsRow base 3 1 v n (iCs xs))
    (A : Option Addr) (m c B : Nat) (L : List Int) (hx : a.eval x = .slice A m c) (hnil : A = none → c = 0) (hL : IntsAt w B A m L) (hn : n + m ≤ 1048576) (hbase : base ≤ w.heap.size)
    (h : ∀ v' w', w'.ownsRow base 3 1 v' (n + m) (iCs (xs ++ L)) → w.grownBy w' v.ownBlock → (v'.ownBlock = v.ownBlock ∨ v'.ownBlock = some w.heap.size) → K' (a.put o.dst v') w') : o.wp Try.prog a w K' Q := by
  obtain ⟨i0, hi, hz0, hz1, hz2⟩ := info_parts info3
  cases A with
  | some ad =>
    obtain ⟨v', w', hrun, h1, h2, _, h4⟩ := run_append_own_at (P := Try.prog) (w := w) base 37 o.type 3 i0 _ 1 8 Try.underlying37 hi hz0 hz1 hz2 rfl (by decide) v n (iCs xs) hown ad m c (iCs L) (by rw [iCs_len, hL.1.1]; omega) (ints_cells hL) (iCs_one L) (by unfold maxLen; omega) (by omega) hbase
    unfold Oper.wp
    simp [execOp, ho, resolve, invoke, builtin, hs, hx, hrun, Result.andThen]
    exact h v' w' (by rw [show iCs (xs ++ L) = iCs xs ++ iCs L by simp [iCs]]; exact h1) h2 h4
  | none =>
    have hc := hnil rfl
    have hm : m = 0 := by
      rcases Nat.eq_zero_or_pos m with h0 | h0
      · exact h0
      · obtain ⟨b, off, e, _⟩ := hL.2 h0; cases e
    subst hc hm
    have hl : L = [] := List.eq_nil_of_length_eq_zero hL.1.1
    subst hl
    have hrun := run_append_owned_none (P := Try.prog) w base 37 o.type 3 i0 1 Try.underlying37 hi v n (iCs xs) hown
    unfold Oper.wp
    simp [execOp, ho, resolve, invoke, builtin, hs, hx, hrun, Result.andThen]
    exact h _ _ (by simpa using hown) (World.grownBy.refl _ _) (.inl rfl)

theorem wpList_append_ints_at {w : World} {ops : Array Oper} {rest : List Oper} {o : Oper} {a : Act} {Q : Exit → Act → World → Prop} (hgd : o.guard = none) (s x : Operand)
    (ho : o.op = .call { callee := .builtin .append, args := #[s, x], argTypes := #[37, 37] }) (base : Nat) (v : Value) (n : Nat) (xs : List Int) (hs : a.eval s = v) (hown : w.ownsRow base 3 1 v n (iCs xs))
    (A : Option Addr) (m c B : Nat) (L : List Int) (hx : a.eval x = .slice A m c) (hnil : A = none → c = 0) (hL : IntsAt w B A m L) (hn : n + m ≤ 1048576) (hbase : base ≤ w.heap.size)
    (h : ∀ v' w', w'.ownsRow base 3 1 v' (n + m) (iCs (xs ++ L)) → w.grownBy w' v.ownBlock → (v'.ownBlock = v.ownBlock ∨ v'.ownBlock = some w.heap.size) → wpList Try.prog ops Q rest (a.put o.dst v') w') : wpList Try.prog ops Q (o :: rest) a w :=
  wpList_plain hgd fun _ hK => wp_append_ints_at s x ho base v n xs hs hown A m c B L hx hnil hL hn hbase (fun v' w' h1 h2 h3 => hK _ _ (h v' w' h1 h2 h3))

/-- two rows of a call's own, apart -/
def Two (w0 wr : World) (v u : Value) (xs ys : List Int) : Prop :=
  wr.ownsRow w0.heap.size 3 1 v xs.length (iCs xs) ∧ wr.ownsRow w0.heap.size 3 1 u ys.length (iCs ys) ∧ (∀ g, v.ownBlock = some g → u.ownBlock ≠ some g) ∧ Below w0.heap.size w0 wr
section
variable {w0 wr w' : World} {v v' u : Value} {xs ys zs : List Int}
theorem Two.start (w : World) : Two w w (.slice none 0 0) (.slice none 0 0) [] [] := ⟨⟨rfl, .inl ⟨rfl, rfl⟩⟩, ⟨rfl, .inl ⟨rfl, rfl⟩⟩, (fun g h => by cases h), Below.refl _ _⟩
theorem Two.swap (h : Two w0 wr v u xs ys) : Two w0 wr u v ys xs := ⟨h.2.1, h.1, fun g h1 h2 => h.2.2.1 g h2 h1, h.2.2.2⟩
theorem Two.later (h : Two w0 wr v u xs ys) (hb : Below wr.heap.size wr w') : Two w0 w' v u xs ys := ⟨own_next h.1 hb, own_next h.2.1 hb, h.2.2.1, bNext h.2.2.2 hb⟩
theorem Two.grown (h : Two w0 wr v u xs ys) (ho : w'.ownsRow w0.heap.size 3 1 v' (xs.length + zs.length) (iCs (xs ++ zs))) (hg : wr.grownBy w' v.ownBlock) (hv : v'.ownBlock = v.ownBlock ∨ v'.ownBlock = some wr.heap.size) : Two w0 w' v' u (xs ++ zs) ys := by
  refine ⟨by rw [List.length_append]; exact ho, own_stay h.2.1 fun g hgu => hg.block g (own_lt h.2.1 hgu).2 (fun e => h.2.2.1 g e.symm hgu), fun g h1 h2 => ?_, h.2.2.2.grown hg h.2.2.2.size (fun g e => (own_lt h.1 e).1)⟩
  rcases hv with hv | hv
  · exact h.2.2.1 g (hv ▸ h1) h2
  · rw [hv] at h1
    injection h1 with h1
    have := (own_lt h.2.1 h2).2
    omega
end
end Go.Proofs.Yteffpeokialeiaa
