/-
  The walk of has (f25).
-/
import Derived.Test.YteffpeokialeiaaCf
import Derived.Outline
namespace Go.Proofs.Yteffpeokialeiaa
open Go.RowKit

theorem con_yes {l : List Int} {k : Nat} {x : Int} (h : l[k]? = some x) : l.contains x = true := by simpa using List.mem_of_getElem? h
theorem con_no {l : List Int} {x : Int} (h : ∀ (j : Nat) z, l[j]? = some z → z ≠ x) : l.contains x = false := by
  rw [Bool.eq_false_iff]
  intro hc
  obtain ⟨j, hj⟩ := List.mem_iff_getElem?.1 (by simpa using hc)
  exact h j x hj rfl
set_option maxHeartbeats 400000 in
theorem hasN_any (A : Option Addr) (n c : Nat) (l : List Int) (x : Int) (w : World) (ha : IntsAt w w.heap.size A n l) :
    Calls Try.prog 25 #[.slice A n c, .int .i64 x] w fun e w' => e = .returned (.bool (l.contains x)) ∧ w = w' := by
  have hn := ha.1.2
  have HA := Lib.hid ha
  clear ha
  go_enter Try.func25, Try.ntmps25
  go_wp2
  go_loop [5] (fun i => ∃ k : Nat, k ≤ n ∧ i = .int .i64 k ∧ Hid (∀ (j : Nat) z, j < k → l[j]? = some z → z ≠ x)) (fun i => n - (intOf i).toNat)
  case atStart => exact ⟨0, by omega, rfl, Lib.hid fun j z h => absurd h (by omega)⟩
  case round =>
    obtain ⟨k, hk, rfl, HP⟩ := hrel
    by_cases hlt : k < n
    · obtain ⟨b, off, z, rfl, hb, hx, hc⟩ := HA.out.at hlt
      have HX := Lib.hid hx
      clear hx
      by_cases hzx : z = x
      · subst hzx
        go_wp2
        go_ret
        exact ⟨ret_bool (by have := con_yes HX.out; simpa using this), rfl⟩
      · have hb : (z == x) = false := by simpa using hzx
        have HZ := Lib.hid hzx
        clear hzx
        go_wp2
        exact ⟨⟨k + 1, by omega, by go_num, Lib.hid fun j y hj hy => by
          rcases Nat.lt_or_ge j k with h | h
          · exact HP.out j y h hy
          · rw [show j = k by omega, HX.out] at hy
            injection hy with hy
            rw [← hy]; exact HZ.out⟩, by simp [intOf]; omega⟩
    · have HQ := Lib.hid (con_no (l := l) (x := x) fun j z hz => HP.out j z (by have := (List.getElem?_eq_some_iff.1 hz).1; have := HA.out.1.1; omega) hz)
      go_wp2
      go_ret
      exact ⟨ret_bool (by have := HQ.out; simpa using this), rfl⟩
end Go.Proofs.Yteffpeokialeiaa
