/-
  What the lists of an index hold while clauses are entered.
-/
import Derived.Test.YtpkpdjekoghkcaaPlain
import Derived.Test.YtpkpdjekoghkcaaFam
namespace Go.Proofs.Ytpkpdjekoghkcaa
section
variable {ks nub : List K} {j q r : Nat} {ls : Nat → List Int} {x : K}
theorem matK_var {y : K} (h0 : (x.kind == 0) = true) : matK x y = true := by simp [matK, h0]
theorem matK_self : matK x x = true := by
  have := (K.eqv_iff x x).2 rfl
  simp [matK, this]
theorem matK_other {y : K} (hx : (x.kind == 0) = false) (hy : (y.kind == 0) = false) (hne : y ≠ x) : matK x y = false := by
  have : K.eqv x y = false := by
    cases he : K.eqv x y
    · rfl
    · exact absurd ((K.eqv_iff x y).1 he).symm hne
  simp [matK, hx, hy, this]
theorem LsOk.zero : LsOk ks nub 0 (fun _ => []) := ⟨rfl, rfl, fun _ _ _ => rfl⟩
theorem LsOk.var (h : LsOk ks nub j ls) (hx : ks[j]? = some x) (h0 : (x.kind == 0) = true) :
    LsIn ks nub j 0 (upd (upd ls 0 (ls 0 ++ [(j : Int)])) 1 (upd ls 0 (ls 0 ++ [(j : Int)]) 1 ++ [(j : Int)])) := by
  refine ⟨?_, ?_, fun r y hy => ?_⟩
  · rw [upd_other _ _ (by omega), upd_same, h.1, rangeTo_next]
  · rw [upd_same, upd_other _ _ (by omega), h.2.1, restTo_yes hx h0]
  · rw [upd_other _ _ (by omega), upd_other _ _ (by omega), if_neg (by omega)]; exact h.2.2 r y hy
theorem LsIn.step (h : LsIn ks nub j q ls) (hx : ks[j]? = some x) (h0 : (x.kind == 0) = true) (hq : q < nub.length) : LsIn ks nub j (q + 1) (upd ls (2 + q) (ls (2 + q) ++ [(j : Int)])) := by
  refine ⟨?_, ?_, fun r y hy => ?_⟩
  · rw [upd_other _ _ (by omega)]; exact h.1
  · rw [upd_other _ _ (by omega)]; exact h.2.1
  · by_cases hr : r = q
    · subst hr
      rw [upd_same, h.2.2 r y hy, if_neg (by omega), if_pos (by omega), listTo_yes hx (matK_var h0)]
    · rw [upd_other _ _ (by omega), h.2.2 r y hy]
      by_cases hlt : r < q
      · rw [if_pos hlt, if_pos (by omega)]
      · rw [if_neg hlt, if_neg (by omega)]
theorem LsIn.done (h : LsIn ks nub j q ls) (hq : nub.length ≤ q) : LsOk ks nub (j + 1) ls :=
  ⟨h.1, h.2.1, fun r y hy => by rw [h.2.2 r y hy, if_pos]; have := (List.getElem?_eq_some_iff.1 hy).1; omega⟩
theorem LsOk.row (h : LsOk ks nub j ls) (hx : ks[j]? = some x) (h0 : (x.kind == 0) = false) (hr : nub[r]? = some x) (hk : ∀ (r : Nat) (y : K), nub[r]? = some y → (y.kind == 0) = false) (hd : nub.Nodup) :
    LsOk ks nub (j + 1) (upd (upd ls 0 (ls 0 ++ [(j : Int)])) (2 + r) (upd ls 0 (ls 0 ++ [(j : Int)]) (2 + r) ++ [(j : Int)])) := by
  refine ⟨?_, ?_, fun s y hy => ?_⟩
  · rw [upd_other _ _ (by omega), upd_same, h.1, rangeTo_next]
  · rw [upd_other _ _ (by omega), upd_other _ _ (by omega), h.2.1, restTo_no hx h0]
  · by_cases hs : s = r
    · subst hs
      rw [hr] at hy
      have hy := Option.some.inj hy
      subst hy
      rw [upd_same, upd_other _ _ (by omega), h.2.2 s x hr, listTo_yes hx matK_self]
    · rw [upd_other _ _ (by omega), upd_other _ _ (by omega), h.2.2 s y hy, listTo_no hx (matK_other h0 (hk s y hy) ?_)]
      rintro rfl
      have h1 := List.getElem?_eq_some_iff.1 hy
      have h2 := List.getElem?_eq_some_iff.1 hr
      obtain ⟨l1, e1⟩ := h1
      obtain ⟨l2, e2⟩ := h2
      have hp := List.pairwise_iff_getElem.1 hd
      rcases Nat.lt_or_gt_of_ne hs with hlt | hlt
      · exact hp s r l1 l2 hlt (e1.trans e2.symm)
      · exact hp r s l2 l1 hlt (e2.trans e1.symm)
end
end Go.Proofs.Ytpkpdjekoghkcaa
