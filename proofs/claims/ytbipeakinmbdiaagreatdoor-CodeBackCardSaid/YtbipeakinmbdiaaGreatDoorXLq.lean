/-
  Plain: what a block that is read holds, and which errors there are.
-/
import Derived.Test.YtbipeakinmbdiaaGreatDoorKt
namespace Go.Proofs.YtbipeakinmbdiaaGreatDoor
open Go.RowKit

theorem goP_rg : ∀ (ls : List (List UInt8)) (k : Nat) (b b2 : Bk), goP ls k b = .ok b2 → RgB b → RgB b2
  | [], _, b, b2, h, hr => by
    injection h with h
    subst h
    exact hr
  | s :: r, k, b, b2, h, hr => by
    unfold goP at h
    by_cases hk : k = 0
    · rw [if_pos hk] at h
      cases hx : headP s with
      | none => rw [hx] at h; cases h
      | some b' =>
        rw [hx] at h
        obtain ⟨_, _, h3, h4⟩ := headP_some hx
        exact goP_rg r _ _ _ h ⟨h4, fun x hx => by rw [h3] at hx; cases hx⟩
    · rw [if_neg hk] at h
      cases hx : lineP s with
      | none => rw [hx] at h; cases h
      | some x =>
        rw [hx] at h
        obtain ⟨_, _, h3⟩ := lineP_some hx
        refine goP_rg r _ _ _ h ⟨hr.1, fun y hy => ?_⟩
        rcases List.mem_append.1 hy with hy | hy
        · exact hr.2 y hy
        · rw [List.mem_singleton.1 hy]; exact h3
theorem rg_z : RgB zBk := ⟨by unfold inR; decide, fun x hx => by cases hx⟩
theorem parse_rg (t : List UInt8) : RgB (parseV t).1 := by
  unfold parseV
  split
  · exact rg_z
  · cases hg : goP (splitL t).dropLast 0 zBk with
    | error k => exact rg_z
    | ok b =>
      show RgB (if _ then _ else if _ then _ else _ : Bk × Int × Int).1
      split
      · exact rg_z
      · split
        · exact goP_rg _ _ _ _ hg rg_z
        · exact rg_z
theorem goP_pos : ∀ (ls : List (List UInt8)) (k : Nat) (b : Bk) (n : Nat), goP ls k b = .error n → 0 < n
  | [], _, b, n, h => by cases h
  | s :: r, k, b, n, h => by
    unfold goP at h
    by_cases hk : k = 0
    · rw [if_pos hk] at h
      cases hx : headP s with
      | none => rw [hx] at h; injection h with h; omega
      | some b' => rw [hx] at h; exact goP_pos r _ _ _ h
    · rw [if_neg hk] at h
      cases hx : lineP s with
      | none => rw [hx] at h; injection h with h; omega
      | some x => rw [hx] at h; exact goP_pos r _ _ _ h
theorem splitL_pos (l : List UInt8) : 0 < (splitL l).length := by
  obtain ⟨p, x, h, _⟩ := splitL_back _ l (Nat.le_refl _)
  rw [h]; simp
/-- the errors -/
theorem parse_err {t : List UInt8} {b : Bk} {n e : Int} (h : parseV t = (b, n, e)) (he : e ≠ 0) : b = zBk ∧ ((e = 3 ∧ 0 < n) ∨ ((e = 1 ∨ e = 2) ∧ n = 0)) := by
  unfold parseV at h
  split at h
  · injection h with h1 h; injection h with h2 h3
    exact ⟨h1.symm, .inr ⟨.inr h3.symm, h2.symm⟩⟩
  · cases hg : goP (splitL t).dropLast 0 zBk with
    | error k =>
      rw [hg] at h
      injection h with h1 h; injection h with h2 h3
      exact ⟨h1.symm, .inl ⟨h3.symm, by have := goP_pos _ _ _ _ hg; omega⟩⟩
    | ok b' =>
      rw [hg] at h
      have h' : (if (splitL t).length = 1 ∨ (splitL t).getLast? ≠ some [] then ((zBk, ((splitL t).length : Int), 3) : Bk × Int × Int) else if vaP b' then (b', 0, 0) else (zBk, 0, 1)) = (b, n, e) := h
      split at h'
      · injection h' with h1 h'; injection h' with h2 h3
        exact ⟨h1.symm, .inl ⟨h3.symm, by have := splitL_pos t; omega⟩⟩
      · split at h'
        · injection h' with h1 h'; injection h' with h2 h3
          exact absurd h3.symm he
        · injection h' with h1 h'; injection h' with h2 h3
          exact ⟨h1.symm, .inr ⟨.inl h3.symm, h2.symm⟩⟩
end Go.Proofs.YtbipeakinmbdiaaGreatDoor
