/-
  A list of integers is appended to a row of the call's own; the last occurrences, plain.
-/
import Derived.Test.YteffpeokialeiaaAs
import Derived.Test.YteffpeokialeiaaRegN
import Derived.OwnWalk
namespace Go.Proofs.Yteffpeokialeiaa
open Go.RowKit

theorem iCs_one (l : List Int) : ∀ u ∈ iCs l, u.oneCell' = true := by
  intro u hu
  obtain ⟨x, -, rfl⟩ := List.mem_map.1 hu
  rfl
theorem ints_cells {w : World} {B m : Nat} {ad : Addr} {L : List Int} (h : IntsAt w B (some ad) m L) : ∀ j u, (iCs L)[j]? = some u → w.cell? (ad.add j) = some u := by
  intro j u hu
  have hj := (List.getElem?_eq_some_iff.1 hu).1
  rw [iCs_len] at hj
  have hm : 0 < m := by have := h.1.1; omega
  obtain ⟨b, off, e, -, hc⟩ := h.2 hm
  injection e with e
  subst e
  have hadd : (Addr.mk b off none).add j = ⟨b, off + j, none⟩ := by
    unfold Addr.add
    by_cases hi : j = 0 <;> simp [hi]
  rw [hadd, hc j L[j] (List.getElem?_eq_getElem hj), ← hu]
  unfold iCs
  simp [hj]
theorem wp_append_ints {w : World} {o : Oper} {a : Act} {K' : Act → World → Prop} {Q : Exit → Act → World → Prop} (s x : Operand)
    (ho : o.op = .call { callee := .builtin .append, args := #[s, x], argTypes := #[37, 37] }) (base : Nat) (v : Value) (n : Nat) (xs : List Int) (hs : a.eval s = v) (hown : w.ownsRow base 3 1 v n (iCs xs))
    (A : Option Addr) (m c B : Nat) (L : List Int) (hx : a.eval x = .slice A m c) (hnil : A = none → c = 0) (hL : IntsAt w B A m L) (hn : n + m ≤ 1048576) (hbase : base ≤ w.heap.size)
    (h : ∀ v' w', w'.ownsRow base 3 1 v' (n + m) (iCs (xs ++ L)) → w.grownBy w' v.ownBlock → K' (a.put o.dst v') w') : o.wp Try.prog a w K' Q := by
  obtain ⟨i0, hi, hz0, hz1, hz2⟩ := info_parts info3
  cases A with
  | some ad =>
    refine wp_append_own w s x 37 ho base 3 i0 _ 1 8 Try.underlying37 hi hz0 hz1 hz2 rfl (by decide) v n (iCs xs) hs hown ad m c (iCs L) hx (by rw [iCs_len, hL.1.1]; omega) (ints_cells hL) (iCs_one L) (by unfold maxLen; omega) (by omega) hbase ?_
    intro v' w' h1 h2 _
    exact h v' w' (by rw [show iCs (xs ++ L) = iCs xs ++ iCs L by simp [iCs]]; exact h1) h2
  | none =>
    have hc := hnil rfl
    have hm : m = 0 := by
      rcases Nat.eq_zero_or_pos m with h0 | h0
      · exact h0
      · obtain ⟨b, off, e, _⟩ := hL.2 h0; cases e
    subst hc hm
    have hl : L = [] := List.eq_nil_of_length_eq_zero hL.1.1
    subst hl
    have hrun := run_append_owned_none (P := Try.prog) w base 37 o.type 3 i0 1 Try.underlying37 hi v n (iCs xs) hown
    unfold Oper.wp
    simp [execOp, ho, resolve, invoke, builtin, hs, hx, hrun, Result.andThen]
    exact h _ _ (by simpa using hown) (World.grownBy.refl _ _)

/-- the map of the last occurrences, one instruction more -/
def lastG (base : Int) (f : Int → Option Value) (k : Nat) (L : List Int) (y : Int) : Option Value := if decide (base < y) && L.contains y then some (.int .i64 k) else f y
def lastFrom (base : Int) : List In → Nat → (Int → Option Value) → Int → Option Value
  | [], _, f => f
  | x :: t, k, f => lastFrom base t (k + 1) (lastG base f k (rdOf x ++ wrOf x))
def lastsF (l : List In) (base : Int) : Int → Option Value := lastFrom base l 0 (fun _ => none)
theorem last_drop (base : Int) (l : List In) (f : Int → Option Value) (k : Nat) (x : In) (h : l[k]? = some x) :
    lastFrom base (l.drop k) k f = lastFrom base (l.drop (k + 1)) (k + 1) (lastG base f k (rdOf x ++ wrOf x)) := by
  obtain ⟨hlt, hx⟩ := List.getElem?_eq_some_iff.1 h
  rw [List.drop_eq_getElem_cons hlt, hx]; rfl
theorem lastG_snoc {base : Int} {f : Int → Option Value} {k j : Nat} {L : List Int} {x : Int} (hx : L[j]? = some x) (y : Int) :
    lastG base f k (L.take (j + 1)) y = if y = x ∧ base < x then some (.int .i64 k) else lastG base f k (L.take j) y := by
  unfold lastG
  rw [List.take_add_one, hx]
  by_cases e : y = x
  · subst e
    by_cases h : base < y
    · simp [h]
    · simp [h]
  · rw [if_neg (c := y = x ∧ base < x) (fun h => e h.1)]
    have : (L.take j ++ (some x).toList).contains y = (L.take j).contains y := by rw [Bool.eq_iff_iff]; simp [e]
    rw [this]
theorem lastG_nil (base : Int) (f : Int → Option Value) (k : Nat) (y : Int) : lastG base f k [] y = f y := by unfold lastG; simp
end Go.Proofs.Yteffpeokialeiaa
