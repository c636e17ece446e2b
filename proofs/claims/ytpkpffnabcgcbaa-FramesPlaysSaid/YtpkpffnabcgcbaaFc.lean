/-
  Walks: current.
-/
import Derived.Test.YtpkpffnabcgcbaaFb
namespace Go.Proofs.Ytpkpffnabcgcbaa
open Go.RowKit

set_option maxHeartbeats 2000000 in
theorem current_no {B p : Nat} {s : St} {ve vc : Value} {ys : List Value} {cs : List (Value × Value)} (w : World) (h : Stk w B p s ve vc ys cs) (he : s.e < 1 ∨ (s.envs.length : Int) < s.e) :
    Calls Try.prog 40 #[.pointer (some ⟨p, 0, none⟩)] w fun e w' => e = .returned (.pointer none) ∧ Below w.heap.size w w' := by
  obtain ⟨c0, c1, c2⟩ := h.cells
  have hl := h.box.lt
  obtain ⟨A, c, e, -⟩ := own_form h.envs
  subst e
  clear h
  by_cases h1 : s.e < 1
  · have d1 : decide (s.e < 1) = true := by simp; omega
    go_enter Try.func40, Try.ntmps40
    go_wp2_with fail
    go_quiet (fail)
    go_wp2_with fail
    go_ret
    exact ⟨rfl, bDrewN (Below.refl _ _) _⟩
  · have h2 : (s.envs.length : Int) < s.e := by omega
    have d1 : decide (s.e < 1) = false := by simp; omega
    have d2 : decide ((s.envs.length : Int) < s.e) = true := by simp; omega
    go_enter Try.func40, Try.ntmps40
    go_wp2_with fail
    go_quiet (fail)
    go_wp2_with fail
    go_ret
    exact ⟨rfl, bDrewN (Below.refl _ _) _⟩
set_option maxHeartbeats 2000000 in
theorem current_at {B p g cap : Nat} {s : St} {vc : Value} {ys : List Value} {cs : List (Value × Value)} (w : World) (h : Stk w B p s (.slice (some ⟨g, 0, none⟩) s.envs.length cap) vc ys cs) (hn : s.envs.length ≤ 1000000000000) {n : Nat} (he : s.e = (n : Int) + 1) (hlt : n < s.envs.length) :
    Calls Try.prog 40 #[.pointer (some ⟨p, 0, none⟩)] w fun e w' => e = .returned (.pointer (some ⟨g, n * 4, none⟩)) ∧ Below w.heap.size w w' := by
  obtain ⟨c0, c1, c2⟩ := h.cells
  have hl := h.box.lt
  rw [he] at c1
  clear h
  have d1 : decide ((n : Int) + 1 < 1) = false := by simp; omega
  have d2 : decide ((s.envs.length : Int) < (n : Int) + 1) = false := by simp; omega
  go_enter Try.func40, Try.ntmps40
  go_wp2_with fail
  go_quiet (fail)
  go_wp2_with fail
  go_quiet (fail)
  go_wp2_with fail
  go_ret
  exact ⟨by simp, bDrewN (bDrewN (Below.refl _ _) _) _⟩
end Go.Proofs.Ytpkpffnabcgcbaa
