/-
  Plain: heaps in lists.
-/
import Derived.Test.YteffpeokialeiaaAu
namespace Go.Proofs.Yteffpeokialeiaa
open Go.RowKit

def at_ (l : List Int) (i : Nat) : Int := l.getD i 0
theorem at_get {l : List Int} {i : Nat} (h : i < l.length) : l[i]? = some (at_ l i) := by
  unfold at_; rw [List.getElem?_eq_getElem h]; simp [h]
theorem at_swap {l : List Int} {i j : Nat} {x y : Int} (hi : i < l.length) (hj : j < l.length) (k : Nat) : at_ (swapL l i j x y) k = if k = j then x else if k = i then y else at_ l k := by
  unfold at_ swapL
  simp only [List.getD_eq_getElem?_getD, List.getElem?_set, List.length_set]
  by_cases e : j = k
  · subst e; simp [hj]
  · rw [if_neg e, if_neg (Ne.symm e)]
    by_cases e2 : i = k
    · subst e2; simp [hi]
    · rw [if_neg e2, if_neg (Ne.symm e2)]
theorem swap_perm {l : List Int} {i j : Nat} (hi : i < l.length) (hj : j < l.length) : (swapL l i j (at_ l i) (at_ l j)).Perm l := by
  have e1 : at_ l i = l[i] := by simp [at_, hi]
  have e2 : at_ l j = l[j] := by simp [at_, hj]
  unfold swapL
  rw [e1, e2]
  exact List.set_set_perm hi hj
/-- the first n elements are a heap -/
def IsH (l : List Int) (n : Nat) : Prop := ∀ k, 0 < k → k < n → at_ l ((k - 1) / 2) ≤ at_ l k
def UpI (l : List Int) (n j : Nat) : Prop := (∀ k, 0 < k → k < n → k ≠ j → at_ l ((k - 1) / 2) ≤ at_ l k) ∧ ∀ k, 0 < k → k < n → (k - 1) / 2 = j → 0 < j → at_ l ((j - 1) / 2) ≤ at_ l k
theorem up_end {l : List Int} {n j : Nat} (h : UpI l n j) (he : j = 0 ∨ at_ l ((j - 1) / 2) ≤ at_ l j) : IsH l n := fun k h0 hk => by
  by_cases e : k = j
  · subst e; rcases he with he | he
    · omega
    · exact he
  · exact h.1 k h0 hk e
theorem up_step {l : List Int} {n j : Nat} (h : UpI l n j) (hj : j < n) (hn : n ≤ l.length) (h0 : 0 < j) (hlt : at_ l j < at_ l ((j - 1) / 2)) :
    UpI (swapL l ((j - 1) / 2) j (at_ l ((j - 1) / 2)) (at_ l j)) n ((j - 1) / 2) := by
  generalize hp : (j - 1) / 2 = p at *
  have hpj : p < j := by omega
  have hs := fun k => at_swap (l := l) (i := p) (j := j) (x := at_ l p) (y := at_ l j) (by omega) (by omega) k
  refine ⟨fun k k0 kn kp => ?_, fun k k0 kn kp p0 => ?_⟩
  · rw [hs, hs]
    by_cases e : k = j
    · rw [if_pos e, e, hp, if_neg (by omega), if_pos rfl]; omega
    · rw [if_neg e, if_neg kp]
      have h1 := h.1 k k0 kn e
      by_cases e1 : (k - 1) / 2 = j
      · rw [if_pos e1]; have h3 := h.2 k k0 kn e1 h0; rwa [hp] at h3
      · rw [if_neg e1]
        by_cases e2 : (k - 1) / 2 = p
        · rw [if_pos e2]; rw [e2] at h1; omega
        · rw [if_neg e2]; exact h1
  · have hpp : (p - 1) / 2 ≠ j ∧ (p - 1) / 2 ≠ p := by omega
    rw [hs, hs, if_neg hpp.1, if_neg hpp.2]
    have h2 := h.1 p p0 (by omega) (by omega)
    by_cases e : k = j
    · rw [if_pos e]; exact h2
    · rw [if_neg e, if_neg (by omega)]
      have h1 := h.1 k k0 kn e
      rw [kp] at h1
      omega
def DnI (l : List Int) (n i : Nat) : Prop := (∀ k, 0 < k → k < n → (k - 1) / 2 ≠ i → at_ l ((k - 1) / 2) ≤ at_ l k) ∧ ∀ k, 0 < k → k < n → (k - 1) / 2 = i → 0 < i → at_ l ((i - 1) / 2) ≤ at_ l k
theorem dn_end {l : List Int} {n i : Nat} (h : DnI l n i) (he : ∀ k, 0 < k → k < n → (k - 1) / 2 = i → at_ l i ≤ at_ l k) : IsH l n := fun k h0 hk => by
  by_cases e : (k - 1) / 2 = i
  · rw [e]; exact he k h0 hk e
  · exact h.1 k h0 hk e
theorem dn_step {l : List Int} {n i j : Nat} (h : DnI l n i) (hj : j < n) (hn : n ≤ l.length) (h0 : 0 < j) (hpj : (j - 1) / 2 = i) (hmin : ∀ k, 0 < k → k < n → (k - 1) / 2 = i → at_ l j ≤ at_ l k) (hlt : at_ l j < at_ l i) :
    DnI (swapL l i j (at_ l i) (at_ l j)) n j := by
  have hij : i < j := by omega
  have hs := fun k => at_swap (l := l) (i := i) (j := j) (x := at_ l i) (y := at_ l j) (by omega) (by omega) k
  refine ⟨fun k k0 kn kp => ?_, fun k k0 kn kp p0 => ?_⟩
  · rw [hs, hs, if_neg kp]
    by_cases e : k = j
    · rw [if_pos e, e, hpj, if_pos rfl]; omega
    · rw [if_neg e]
      by_cases e1 : k = i
      · rw [if_pos e1, if_neg (by omega)]
        rw [e1]
        exact h.2 j h0 hj hpj (by omega)
      · rw [if_neg e1]
        by_cases e2 : (k - 1) / 2 = i
        · rw [if_pos e2]; exact hmin k k0 kn e2
        · rw [if_neg e2]; exact h.1 k k0 kn e2
  · rw [hs, hs, hpj, if_neg (by omega), if_pos rfl, if_neg (by omega), if_neg (by omega)]
    have := h.1 k k0 kn (by omega)
    rwa [kp] at this
theorem heap_min {l : List Int} {n : Nat} (h : IsH l n) : ∀ k, k < n → at_ l 0 ≤ at_ l k := by
  intro k
  induction k using Nat.strongRecOn with
  | ind k ih =>
    intro hk
    by_cases e : k = 0
    · rw [e]; exact Int.le_refl _
    · have h1 := h k (by omega) hk
      have h2 := ih ((k - 1) / 2) (by omega) (by omega)
      omega
theorem heap_snoc {l : List Int} (h : IsH l l.length) (x : Int) : UpI (l ++ [x]) (l.length + 1) l.length := by
  have ha : ∀ k, k < l.length → at_ (l ++ [x]) k = at_ l k := fun k hk => by simp [at_, List.getElem?_append_left hk]
  refine ⟨fun k k0 kn kj => ?_, fun k k0 kn kp p0 => by omega⟩
  rw [ha _ (by omega), ha _ (by omega)]
  exact h k k0 (by omega)
theorem heap_first {l : List Int} {n : Nat} (h : IsH l (n + 1)) (hn : n + 1 ≤ l.length) : DnI (swapL l 0 n (at_ l 0) (at_ l n)) n 0 := by
  have hs := fun k => at_swap (l := l) (i := 0) (j := n) (x := at_ l 0) (y := at_ l n) (by omega) (by omega) k
  refine ⟨fun k k0 kn kp => ?_, fun k k0 kn kp p0 => by omega⟩
  rw [hs, hs, if_neg (by omega), if_neg kp, if_neg (by omega), if_neg (by omega)]
  exact h k k0 (by omega)
end Go.Proofs.Yteffpeokialeiaa
