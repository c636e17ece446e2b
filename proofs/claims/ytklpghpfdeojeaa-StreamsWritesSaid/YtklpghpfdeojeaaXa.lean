/-
  Plain: files in order; what New makes is valid.
-/
import Derived.Test.YtklpghpfdeojeaaUl
namespace Go.Proofs.Ytklpghpfdeojeaa
open Go.RowKit

@[reducible] def bl (a b : ByteArray) : Bool := Op.bytesLess a.toList b.toList
theorem less_trans : ∀ (x y z : List UInt8), Op.bytesLess x y = true → Op.bytesLess y z = true → Op.bytesLess x z = true
  | _, [], _, h, _ => by cases ‹List UInt8› <;> simp [Op.bytesLess] at h
  | _, _ :: _, [], _, h => by simp [Op.bytesLess] at h
  | [], _ :: _, _ :: _, _, _ => by simp [Op.bytesLess]
  | a :: x, b :: y, c :: z, h1, h2 => by
    have ih := less_trans x y z
    simp only [Op.bytesLess, UInt8.lt_iff_toNat_lt, Bool.or_eq_true, Bool.and_eq_true, decide_eq_true_eq, beq_iff_eq] at h1 h2 ⊢
    rcases h1 with h1 | ⟨rfl, h1⟩
    · rcases h2 with h2 | ⟨rfl, h2⟩
      · exact .inl (by omega)
      · exact .inl h1
    · rcases h2 with h2 | ⟨rfl, h2⟩
      · exact .inl h2
      · exact .inr ⟨rfl, ih h1 h2⟩
theorem less_irrefl : ∀ (x : List UInt8), Op.bytesLess x x = false
  | [] => rfl
  | a :: x => by simp [Op.bytesLess, less_irrefl x]
theorem less_tri (x y : List UInt8) (h : Op.bytesLess x y = false) (hn : x ≠ y) : Op.bytesLess y x = true := by
  have h1 := bytes_tri x y
  rw [h] at h1
  cases h2 : Op.bytesLess y x
  · rw [h2] at h1
    have h3 : (!y == x) = true := by
      have : ¬ (y == x) = true := fun e => hn (by simpa using (beq_iff_eq.1 e).symm)
      simpa using this
    rw [h3] at h1
    simp at h1
  · rfl
def okF (x : F) : Bool := namedB x.name && decide ((x.text.size : Int) ≤ 16384)
structure Ord (l : List F) : Prop where
  ok : ∀ x ∈ l, okF x = true
  pw : l.Pairwise fun x y => bl x.name y.name = true
theorem ord_pair {l : List F} : ∀ {n : Nat}, orderedTo l n = true → ∀ i j x y, i < j → j < n → l[i]? = some x → l[j]? = some y → bl x.name y.name = true := by
  intro n h i j
  induction j with
  | zero => intro x y hij; omega
  | succ j ih =>
    intro x y hij hj hx hy
    have h1 := ordered_at h (j + 1) y hj hy
    have hz : l[j]? = some (l[j]'(by have := (List.getElem?_eq_some_iff.1 hy).1; omega)) := List.getElem?_eq_getElem _
    simp only [ordAt, prevOf, hz, Bool.and_eq_true] at h1
    rcases Nat.lt_or_ge i j with hlt | hge
    · exact less_trans _ _ _ (ih x _ hlt (by omega) hx hz) h1.2
    · obtain rfl : i = j := by omega
      rw [hz] at hx
      injection hx with hx
      rw [← hx]; exact h1.2
theorem ord_of {l : List F} (h : orderedB l = true) : Ord l := by
  refine ⟨fun x hx => ?_, ?_⟩
  · obtain ⟨i, hi⟩ := List.mem_iff_getElem?.1 hx
    have h1 := ordered_at h i x (List.getElem?_eq_some_iff.1 hi).1 hi
    exact and_left h1
  · rw [List.pairwise_iff_getElem]
    intro i j hi hj hij
    exact ord_pair h i j _ _ hij hj (List.getElem?_eq_getElem hi) (List.getElem?_eq_getElem hj)
theorem of_ord {l : List F} (h : Ord l) : orderedB l = true := by
  have key : ∀ n, n ≤ l.length → orderedTo l n = true := by
    intro n
    induction n with
    | zero => intro _; rfl
    | succ n ih =>
      intro hn
      have hx : l[n]? = some (l[n]'(by omega)) := List.getElem?_eq_getElem _
      rw [orderedTo_next hx (ih (by omega))]
      have h1 := h.ok l[n] (List.getElem_mem _)
      unfold okF at h1
      simp only [ordAt, h1, Bool.true_and]
      cases n with
      | zero => rfl
      | succ m =>
        have hy : l[m]? = some (l[m]'(by omega)) := List.getElem?_eq_getElem _
        simp only [prevOf, hy]
        exact (List.pairwise_iff_getElem.1 h.pw) m (m + 1) (by omega) (by omega) (by omega)
  exact key l.length (Nat.le_refl _)
theorem insF_mem {l : List F} {f x : F} : x ∈ insF l f ↔ x = f ∨ x ∈ l := by
  unfold insF
  rw [List.mem_append, List.mem_cons]
  constructor
  · rintro (h | rfl | h)
    · exact .inr (List.mem_of_mem_take h)
    · exact .inl rfl
    · exact .inr (List.mem_of_mem_drop h)
  · rintro (rfl | h)
    · exact .inr (.inl rfl)
    · rw [← List.take_append_drop (posF l f) l, List.mem_append] at h
      rcases h with h | h
      · exact .inl h
      · exact .inr (.inr h)
theorem insF_ord {l : List F} {f : F} (h : Ord l) (hf : okF f = true) (hn : ∀ x ∈ l, fileP f.name x = false) : Ord (insF l f) := by
  have hp := posF_le l f
  have hbefore : ∀ x ∈ l.take (posF l f), bl x.name f.name = true := fun x hx => by
    obtain ⟨k, hk⟩ := List.mem_iff_getElem?.1 hx
    have hlt := (List.getElem?_eq_some_iff.1 hk).1
    rw [List.length_take] at hlt
    rw [List.getElem?_take] at hk
    split at hk
    · rename_i hkp
      have h1 := posF_before hk hkp
      rw [gtF_eq] at h1
      have h2 := hn x (List.mem_of_getElem? hk)
      exact less_tri _ _ h1 (fun e => by simp [fileP, e] at h2)
    · cases hk
  have hafter : ∀ x ∈ l.drop (posF l f), bl f.name x.name = true := fun x hx => by
    obtain ⟨k, hk⟩ := List.mem_iff_getElem?.1 hx
    rw [List.getElem?_drop] at hk
    have hlt := (List.getElem?_eq_some_iff.1 hk).1
    have h0 : l[posF l f]? = some (l[posF l f]'(by omega)) := List.getElem?_eq_getElem _
    have h1 := posF_at h0
    rw [gtF_eq] at h1
    rcases Nat.eq_zero_or_pos k with rfl | hk0
    · rw [Nat.add_zero, h0] at hk
      injection hk with hk
      rw [← hk]; exact h1
    · refine less_trans _ _ _ h1 ?_
      have h2 := (List.pairwise_iff_getElem.1 h.pw) (posF l f) (posF l f + k) (by omega) hlt (by omega)
      obtain ⟨h3, h4⟩ := List.getElem?_eq_some_iff.1 hk
      rw [h4] at h2
      exact h2
  refine ⟨fun x hx => ?_, ?_⟩
  · rcases insF_mem.1 hx with rfl | hx
    · exact hf
    · exact h.ok x hx
  · unfold insF
    have h0 := h.pw
    rw [← List.take_append_drop (posF l f) l, List.pairwise_append] at h0
    rw [List.pairwise_append, List.pairwise_cons]
    refine ⟨h0.1, ⟨fun y hy => hafter y hy, h0.2.1⟩, fun x hx y hy => ?_⟩
    rw [List.mem_cons] at hy
    rcases hy with rfl | hy
    · exact hbefore x hx
    · exact h0.2.2 x hx y hy
theorem idx_neg {α : Type} {l : List α} {p : α → Bool} (h : idxI l p < 0) : ∀ x ∈ l, p x = false := by
  rcases idxI_cases l p with ⟨-, h1⟩ | ⟨k, x, he, -⟩
  · exact h1
  · omega
theorem idx_pos {α : Type} {l : List α} {p : α → Bool} {x : α} (hx : x ∈ l) (hp : p x = true) : 0 ≤ idxI l p := by
  rcases idxI_cases l p with ⟨-, h1⟩ | ⟨k, y, he, -⟩
  · rw [h1 x hx] at hp; cases hp
  · omega
theorem step_ord {l : List F} {n : ByteArray} (h : Ord l) (hn : namedB n = true) : Ord (stepF l n) := by
  by_cases hi : idxI l (fileP n) < 0
  · rw [stepF_no hi]
    exact insF_ord h (by unfold okF; rw [show namedB (emF n).name = true from hn]; rfl) (idx_neg hi)
  · rw [stepF_yes hi]; exact h
theorem step_has (l : List F) (n : ByteArray) : 0 ≤ idxI (stepF l n) (fileP n) := by
  by_cases hi : idxI l (fileP n) < 0
  · rw [stepF_no hi]
    exact idx_pos (insF_mem.2 (.inl rfl)) (by simp)
  · rw [stepF_yes hi]; omega
theorem step_keeps {l : List F} {n m : ByteArray} (h : 0 ≤ idxI l (fileP m)) : 0 ≤ idxI (stepF l n) (fileP m) := by
  by_cases hi : idxI l (fileP n) < 0
  · rw [stepF_no hi]
    rcases idxI_cases l (fileP m) with ⟨he, -⟩ | ⟨k, x, -, -, hx, hp⟩
    · omega
    · exact idx_pos (insF_mem.2 (.inr (List.mem_of_getElem? hx))) hp
  · rw [stepF_yes hi]; exact h
theorem lenAt_nonneg (l : List F) (k : Int) : 0 ≤ lenAt l k := by
  unfold lenAt
  split <;> omega
/-- what New makes is valid -/
theorem new_valid {l : List F} (h : orderedB l = true) (hn : (newFiles l).length ≤ 16) : validB (newS l) = true := by
  have hi : namedB inS = true := by decide
  have ho : namedB outS = true := by decide
  have hord : orderedB (newFiles l) = true := of_ord (step_ord (step_ord (ord_of h) hi) ho)
  have h1 : 0 ≤ idxI (newFiles l) (fileP inS) := step_keeps (step_has l inS)
  have h2 : 0 ≤ idxI (newFiles l) (fileP outS) := step_has _ outS
  have hn' : ((newFiles l).length : Int) ≤ 16 := by omega
  have hst : standardB [gIn, gOut] = true := by decide +kernel
  have hcur : curB (newS l) = true := rfl
  have hf1 : fitsB (newS l) gIn = true := by
    unfold fitsB fitsX
    have h3 := lenAt_nonneg (newFiles l) (idxI (newFiles l) (fileP inS))
    have ha : decide ((inS.size : Int) ≤ 100) = true := by decide
    simp [h1, h3, ha, kindB]
  have hf2 : fitsB (newS l) gOut = true := by
    unfold fitsB fitsX
    have ha : decide ((outS.size : Int) ≤ 100) = true := by decide
    simp [h2, ha, kindB]
  have hap : apartB gOut gIn = true := by decide +kernel
  have hr : rowsTo (newS l) 2 = true := by
    simp [rowsTo, rowB, validSt, hf1, hf2, pairB, hap]
  unfold validB headB
  rw [hcur, hord, hst]
  show (_ && rowsTo (newS l) 2 && true) = true
  rw [hr]
  simp [hn']
end Go.Proofs.Ytklpghpfdeojeaa
