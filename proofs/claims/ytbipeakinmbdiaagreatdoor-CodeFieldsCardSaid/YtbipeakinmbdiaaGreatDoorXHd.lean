/-
  Plain: one field of one instruction of a block is changed.
-/
import Derived.Test.YtbipeakinmbdiaaGreatDoorXh
import Derived.Test.YtbipeakinmbdiaaGreatDoorKh
namespace Go.Proofs.YtbipeakinmbdiaaGreatDoor
open Go.RowKit

/-- the j-th field changed -/
def chgI (j : Nat) (x : In) (d : Int) : In :=
  if j = 0 then { x with r := wrap64 (x.r + d) } else if j = 1 then { x with a := wrap64 (x.a + d) } else if j = 2 then { x with n := wrap64 (x.n + d) }
  else if j = 3 then { x with nm := x.nm ++ ⟨#[120]⟩ } else if j = 4 then { x with ar := wrap64 (x.ar + d) } else { x with op := wrap64 (x.op + d) }
/-- is the j-th field one that the opcode does not use? -/
def zerI (j : Nat) (x : In) : Bool :=
  if j = 0 then x.r == 0 else if j = 1 then x.a == 0
  else if j = 2 then x.n == 0 && (x.op != 3 && (x.op != 8 && (x.op != 13 && (x.op != 16 && (x.op != 17 && (x.op != 19 && x.op != 20))))))
  else if j = 3 then decide (x.op < 4) || (x.op == 21 || (x.op == 25 || x.op == 18)) else if j = 4 then decide (x.op < 5) || (x.op == 21 || (x.op == 25 || x.op == 18)) else false
theorem wrap_ne {v d : Int} (hd : inR d) (h0 : d ≠ 0) : wrap64 (v + d) ≠ v := by
  unfold inR at hd
  unfold wrap64
  omega
theorem chg_ne {j : Nat} {x : In} {d : Int} (hd : inR d) (h0 : d ≠ 0) : chgI j x d ≠ x := by
  intro h
  unfold chgI at h
  split at h
  · exact wrap_ne hd h0 (congrArg In.r h)
  split at h
  · exact wrap_ne hd h0 (congrArg In.a h)
  split at h
  · exact wrap_ne hd h0 (congrArg In.n h)
  split at h
  · have h9 := congrArg (fun y => y.nm.size) h
    have e9 : (⟨#[120]⟩ : ByteArray).size = 1 := rfl
    simp only [ByteArray.size_append] at h9
    omega
  split at h
  · exact wrap_ne hd h0 (congrArg In.ar h)
  · exact wrap_ne hd h0 (congrArg In.op h)
theorem wrap_zero {d : Int} (hd : inR d) (h0 : d ≠ 0) : wrap64 (0 + d) ≠ 0 := by
  exact wrap_ne hd h0
theorem chg_fo {j : Nat} {x : In} {d : Int} (hd : inR d) (h0 : d ≠ 0) (hz : zerI j x = true) (hf : fo x = true) : fo (chgI j x d) = false := by
  unfold zerI at hz
  unfold chgI
  split at hz
  · rename_i e
    have hr : x.r = 0 := eq_of_beq hz
    rw [if_pos e]
    exact fld_r hr (by rw [hr]; exact wrap_zero hd h0) hf
  · rename_i e
    rw [if_neg e]
    split at hz
    · rename_i e
      have hr : x.a = 0 := eq_of_beq hz
      rw [if_pos e]
      exact fld_a hr (by rw [hr]; exact wrap_zero hd h0) hf
    · rename_i e
      rw [if_neg e]
      split at hz
      · rename_i e
        simp only [Bool.and_eq_true, beq_iff_eq, bne_iff_ne] at hz
        rw [if_pos e]
        exact fld_n hz.1 (by rw [hz.1]; exact wrap_zero hd h0) ⟨hz.2.1, hz.2.2.1, hz.2.2.2.1, hz.2.2.2.2.1, hz.2.2.2.2.2.1, hz.2.2.2.2.2.2.1, hz.2.2.2.2.2.2.2⟩ hf
      · rename_i e
        rw [if_neg e]
        split at hz
        · rename_i e
          simp only [Bool.or_eq_true, beq_iff_eq, decide_eq_true_eq] at hz
          rw [if_pos e]
          refine fld_nm ?_ hz hf
          rw [ByteArray.toList_eq]
          intro h
          have := congrArg List.length h
          simp at this
        · rename_i e
          rw [if_neg e]
          split at hz
          · rename_i e
            simp only [Bool.or_eq_true, beq_iff_eq, decide_eq_true_eq] at hz
            rw [if_pos e]
            have ha := fld_ar0 hf hz
            exact fld_ar ha (by rw [ha]; exact wrap_zero hd h0) hz hf
          · cases hz
theorem va_fo' {b : Bk} (h : vaP b = true) : ∀ x ∈ b.code, fo x = true := by
  intro x hx
  obtain ⟨_, _, _, hu⟩ := va_parts h
  obtain ⟨i, hi⟩ := List.mem_iff_getElem?.1 hx
  obtain ⟨c, c', y, hy, _, hf, _, _⟩ := upto_at (List.getElem?_eq_some_iff.1 hi).1 hu
  rw [hi] at hy
  injection hy with hy
  rw [hy]; exact hf
/-- changed where the opcode does not use it: not valid; changed anywhere: not equal -/
theorem va_chg {b : Bk} {k j : Nat} {x : In} {d : Int} (hx : b.code[k]? = some x) (hd : inR d) (h0 : d ≠ 0) (hz : zerI j x = true) (hv : vaP b = true) : vaP { b with code := b.code.set k (chgI j x d) } = false := by
  cases h : vaP { b with code := b.code.set k (chgI j x d) } with
  | false => rfl
  | true =>
    have hk := (List.getElem?_eq_some_iff.1 hx).1
    have h1 := va_fo' h (chgI j x d) (List.mem_of_getElem? (i := k) (by simp [hk]))
    rw [chg_fo hd h0 hz (va_fo' hv x (List.mem_of_getElem? hx))] at h1
    cases h1
theorem ne_chg {b : Bk} {k j : Nat} {x : In} {d : Int} (hx : b.code[k]? = some x) (hd : inR d) (h0 : d ≠ 0) : b ≠ { b with code := b.code.set k (chgI j x d) } := by
  intro h
  have h1 := congrArg (fun c => c.code[k]?) h
  simp only at h1
  have hk := (List.getElem?_eq_some_iff.1 hx).1
  rw [hx, List.getElem?_set_self hk] at h1
  injection h1 with h1
  exact chg_ne hd h0 h1.symm
end Go.Proofs.YtbipeakinmbdiaaGreatDoor
