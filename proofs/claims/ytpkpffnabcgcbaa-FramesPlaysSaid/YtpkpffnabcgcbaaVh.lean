/-
  Each kind of call by itself; calls keep stacks valid; what calls do to the choice points.
-/
import Derived.Test.YtpkpffnabcgcbaaVd
namespace Go.Proofs.Ytpkpffnabcgcbaa
open Go.RowKit

section
variable {p : St} {x : Sp}
theorem doV0 (h : x.what = 0) : doV p x = (stOf p (allocV p x.n x.id x.pc), ⟨0, 0, ⟨0, 0⟩, chO, errOf (allocV p x.n x.id x.pc)⟩) := by
  unfold doV
  rw [if_pos h]
theorem doV1 (h : x.what = 1) : doV p x = (freeS p (freeV p), ⟨frI (freeV p), frP (freeV p), ⟨0, 0⟩, chO, errOf (freeV p)⟩) := by
  unfold doV
  rw [if_neg (by omega), if_pos h]
theorem doV2 (h : x.what = 2) : doV p x = (stOf p (trimV p x.n), ⟨0, 0, ⟨0, 0⟩, chO, errOf (trimV p x.n)⟩) := by
  unfold doV
  rw [if_neg (by omega), if_neg (by omega), if_pos h]
theorem doV3 (h : x.what = 3) : doV p x = (p, ⟨0, 0, geC (getV p x.n), chO, errOf (getV p x.n)⟩) := by
  unfold doV
  rw [if_neg (by omega), if_neg (by omega), if_neg (by omega), if_pos h]
theorem doV4 (h : x.what = 4) : doV p x = (stOf p (setV p x.n x.c), ⟨0, 0, ⟨0, 0⟩, chO, errOf (setV p x.n x.c)⟩) := by
  unfold doV
  rw [if_neg (by omega), if_neg (by omega), if_neg (by omega), if_neg (by omega), if_pos h]
theorem doV5 (h : x.what = 5) : doV p x = (stOf p (pushV p x.ch), ⟨0, 0, ⟨0, 0⟩, chO, errOf (pushV p x.ch)⟩) := by
  unfold doV
  rw [if_neg (by omega), if_neg (by omega), if_neg (by omega), if_neg (by omega), if_neg (by omega), if_pos h]
theorem doV6 (h : x.what = 6) : doV p x = (popS p (popR p), ⟨0, 0, ⟨0, 0⟩, popC (popR p), errOf (popR p)⟩) := by
  unfold doV
  rw [if_neg (by omega), if_neg (by omega), if_neg (by omega), if_neg (by omega), if_neg (by omega), if_neg (by omega), if_pos h]
theorem doV7 (h : x.what = 7) : doV p x = (stOf p (cutV p x.n), ⟨0, 0, ⟨0, 0⟩, chO, errOf (cutV p x.n)⟩) := by
  unfold doV
  rw [if_neg (by omega), if_neg (by omega), if_neg (by omega), if_neg (by omega), if_neg (by omega), if_neg (by omega), if_neg (by omega), if_pos h]
theorem doVN (h0 : ¬ x.what = 0) (h1 : ¬ x.what = 1) (h2 : ¬ x.what = 2) (h3 : ¬ x.what = 3) (h4 : ¬ x.what = 4) (h5 : ¬ x.what = 5) (h6 : ¬ x.what = 6) (h7 : ¬ x.what = 7) : doV p x = (p, ⟨0, 0, ⟨0, 0⟩, chO, 0⟩) := by
  unfold doV
  rw [if_neg h0, if_neg h1, if_neg h2, if_neg h3, if_neg h4, if_neg h5, if_neg h6, if_neg h7]
/-- every call keeps stacks valid -/
theorem good_do (g : Good p) : Good (doV p x).1 := by
  by_cases he : (doV p x).2.e = 0
  · refine (held_do (E := []) (C := []) ⟨g, rfl, rfl⟩ (Int.le_refl _) x (fun h => ?_) (fun h => ?_)).good
    · rw [doV6 h] at he
      obtain ⟨c, -, h1, -⟩ := view_pop g he
      exact h1
    · rw [doV7 h] at he
      exact (view_cut g he).1
  · rw [do_err he]
    exact g
/-- the calls but Push, Pop, Cut change no choice points -/
theorem chs_do (h5 : x.what ≠ 5) (h6 : x.what ≠ 6) (h7 : x.what ≠ 7) : (doV p x).1.chs = p.chs := by
  by_cases h0 : x.what = 0
  · rw [doV0 h0]
    show (stOf p (allocV p x.n x.id x.pc)).chs = p.chs
    unfold allocV
    split
    · rfl
    · split <;> rfl
  by_cases h1 : x.what = 1
  · rw [doV1 h1]
    show (freeS p (freeV p)).chs = p.chs
    unfold freeV
    split
    · split <;> rfl
    · rfl
  by_cases h2 : x.what = 2
  · rw [doV2 h2]
    show (stOf p (trimV p x.n)).chs = p.chs
    unfold trimV
    split
    · split
      · split
        · rfl
        · split <;> rfl
      · rfl
    · rfl
  by_cases h3 : x.what = 3
  · rw [doV3 h3]
  by_cases h4 : x.what = 4
  · rw [doV4 h4]
    show (stOf p (setV p x.n x.c)).chs = p.chs
    unfold setV
    split
    · split
      · split
        · rfl
        · split
          · rfl
          · split <;> rfl
      · rfl
    · rfl
  unfold doV
  rw [if_neg h0, if_neg h1, if_neg h2, if_neg h3, if_neg h4, if_neg h5, if_neg h6, if_neg h7]
end
end Go.Proofs.Ytpkpffnabcgcbaa
