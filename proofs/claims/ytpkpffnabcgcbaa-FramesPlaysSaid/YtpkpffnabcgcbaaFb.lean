/-
  Walks: protected, cut, current, greater, cell.
-/
import Derived.Test.YtpkpffnabcgcbaaFa
import Derived.RegionTactic
import Derived.BigQuiet
import Derived.Deep.QuietTactic
namespace Go.Proofs.Ytpkpffnabcgcbaa
open Go.RowKit

/-- the protected height -/
def protV (s : St) : Int := match s.chs.getLast? with | some c => c.envs | none => 0
theorem protV_nil {s : St} (h : s.chs = []) : protV s = 0 := by unfold protV; rw [h]; rfl
theorem protV_at {s : St} {n : Nat} {c : Ch} (hn : s.chs.length = n + 1) (h : s.chs[n]? = some c) : protV s = c.envs := by
  unfold protV
  rw [List.getLast?_eq_getElem?, hn, Nat.add_sub_cancel, h]

theorem greater_any (a b : Int) (w : World) : Calls Try.prog 31 #[.int .i64 a, .int .i64 b] w fun e w' => e = .returned (.int .i64 (max a b)) ∧ w' = w := by
  by_cases h : b < a
  · go_enter Try.func31, Try.ntmps31
    go_wp2_with fail
    go_ret
    exact ⟨ret_int (Int.max_eq_left (by omega)).symm, rfl⟩
  · go_enter Try.func31, Try.ntmps31
    go_wp2_with fail
    go_ret
    exact ⟨ret_int (Int.max_eq_right (by omega)).symm, rfl⟩

set_option maxHeartbeats 1000000 in
theorem protected_any {B p : Nat} {s : St} {ve vc : Value} {ys : List Value} {cs : List (Value × Value)} (w : World) (h : Stk w B p s ve vc ys cs) (hn : s.chs.length ≤ 1000000000000) :
    Calls Try.prog 37 #[.pointer (some ⟨p, 0, none⟩)] w fun e w' => e = .returned (.int .i64 (protV s)) ∧ w' = w := by
  obtain ⟨c0, c1, c2⟩ := h.cells
  have hl := h.box.lt
  cases hc : s.chs.length with
  | zero =>
    have hnil : s.chs = [] := List.eq_nil_of_length_eq_zero hc
    obtain ⟨A, c, e, -⟩ := own_form h.chs
    rw [hc] at e
    subst e
    rw [protV_nil hnil]
    clear h
    go_enter Try.func37, Try.ntmps37
    go_wp2_with fail
    go_ret
    exact ⟨rfl, rfl⟩
  | succ n =>
    obtain ⟨x, hx⟩ : ∃ x, s.chs[n]? = some x := ⟨_, List.getElem?_eq_getElem (by omega)⟩
    obtain ⟨g, cap, v, e, hcap, hv, k0, k1, k2, k3, k4, k5, k6, k7, k8, k9, k10⟩ := h.chAt hx
    rw [hc] at e hcap
    subst e
    rw [protV_at hc hx]
    clear h hx hv k0 k1 k2 k3 k4 k5 k6 k7 k9 k10
    go_enter Try.func37, Try.ntmps37
    go_wp2_with fail
    go_ret
    exact ⟨rfl, rfl⟩

theorem cell_any (n : Int) (w : World) : Calls Try.prog 19 #[.int .i64 n] w fun e w' => e = .returned (.agg #[.int .i64 1, .int .i64 n]) ∧ Below w.heap.size w w' := by
  go_enter Try.func19, Try.ntmps19
  go_wp2_with fail
  refine bodyPost_ret (v := .agg #[.int .i64 1, .int .i64 n]) (by simp only [results, Try.results19]; go_simp) rfl ⟨rfl, bAlloc _ _⟩

set_option maxHeartbeats 1000000 in
/-- a slice of the row's first elements -/
theorem cut_env {A : Option Addr} {n c : Nat} {k : Int} {m : Nat} (w : World) (hA : CapOk A n c) (hn : n ≤ 1000000000000) (hm : (m : Int) = min (max k 0) n) :
    Calls Try.prog 41 #[.slice A n c, .int .i64 k] w fun e w' => e = .returned (.slice A m c) ∧ w' = w := by
  have hnc := hA.1
  go_enter Try.func41, Try.ntmps41
  go_wp2_with fail
  all_goals first | (exfalso; omega) | (go_ret; exact ⟨ret_slice (by omega), rfl⟩)
set_option maxHeartbeats 1000000 in
/-- a slice of the row's first elements -/
theorem cut_cell {A : Option Addr} {n c : Nat} {k : Int} {m : Nat} (w : World) (hA : CapOk A n c) (hn : n ≤ 1000000000000) (hm : (m : Int) = min (max k 0) n) :
    Calls Try.prog 51 #[.slice A n c, .int .i64 k] w fun e w' => e = .returned (.slice A m c) ∧ w' = w := by
  have hnc := hA.1
  go_enter Try.func51, Try.ntmps51
  go_wp2_with fail
  all_goals first | (exfalso; omega) | (go_ret; exact ⟨ret_slice (by omega), rfl⟩)
end Go.Proofs.Ytpkpffnabcgcbaa
