/-
  Walks: slices.Contains at integers; the row of integers that a call owns.
-/
import Derived.Test.YteffpeokialeiaaAe
import Derived.Outline
namespace Go.Proofs.Yteffpeokialeiaa
open Go.RowKit

theorem info_parts {t : TypeId} {z : Value} {s b : Nat} (h : (Try.prog.info? t).map (fun i => (i.zero, i.size, i.bytes)) = some (some z, s, b)) :
    ∃ i, Try.prog.info? t = some i ∧ i.zero = some z ∧ i.size = s ∧ i.bytes = b := by
  cases hi : Try.prog.info? t with
  | none => rw [hi] at h; simp at h
  | some i =>
    rw [hi] at h
    simp only [Option.map_some, Option.some.injEq, Prod.mk.injEq] at h
    exact ⟨i, rfl, h.1, h.2.1, h.2.2⟩
theorem info3 : (Try.prog.info? 3).map (fun i => (i.zero, i.size, i.bytes)) = some (some (.int .i64 0), 1, 8) := by kernel_rfl
theorem info23 : (Try.prog.info? 23).map (fun i => (i.zero, i.size, i.bytes)) = some (some (.agg #[.int .i64 0, .int .i64 0, .int .i64 0, .int .i64 0, .string ⟨#[]⟩, .int .i64 0]), 6, 56) := by kernel_rfl

/-- the index of a number in a list -/
def idxOf (l : List Int) (x : Int) : Int := match l.findIdx? (· == x) with | some k => (k : Int) | none => -1
theorem idxOf_yes {l : List Int} {x : Int} {k : Nat} (hk : l[k]? = some x) (hp : ∀ (j : Nat) z, j < k → l[j]? = some z → z ≠ x) : idxOf l x = k := by
  unfold idxOf
  obtain ⟨hlt, hx⟩ := List.getElem?_eq_some_iff.1 hk
  rw [List.findIdx?_eq_some_iff_getElem.2 ⟨hlt, by rw [hx]; simp, fun j hj => by simpa using hp j _ hj (List.getElem?_eq_getElem (by omega))⟩]
theorem idxOf_no {l : List Int} {x : Int} (hp : ∀ (j : Nat) z, l[j]? = some z → z ≠ x) : idxOf l x = -1 := by
  unfold idxOf
  rw [List.findIdx?_eq_none_iff.2 fun y hy => by obtain ⟨j, hj⟩ := List.mem_iff_getElem?.1 hy; simpa using hp j _ hj]
theorem idxOf_has (l : List Int) (x : Int) : decide (0 ≤ idxOf l x) = l.contains x := by
  unfold idxOf
  cases h : l.findIdx? (· == x) with
  | none =>
    have := List.findIdx?_eq_none_iff.1 h
    have h2 : l.contains x = false := by
      rw [Bool.eq_false_iff]; intro hc
      have := this x (by simpa using hc)
      simp at this
    rw [h2]; rfl
  | some k =>
    obtain ⟨hlt, he, _⟩ := List.findIdx?_eq_some_iff_getElem.1 h
    have h2 : l.contains x = true := by
      have : l[k] = x := by simpa using he
      rw [← this]; simp
    rw [h2]; simp

set_option maxHeartbeats 400000 in
theorem index_any (A : Option Addr) (n c : Nat) (l : List Int) (x : Int) (w : World) (ha : IntsAt w w.heap.size A n l) :
    Calls Try.prog 55 #[.slice A n c, .int .i64 x] w fun e w' => e = .returned (.int .i64 (idxOf l x)) ∧ w = w' := by
  have hn := ha.1.2
  have HA := Lib.hid ha
  clear ha
  go_enter Try.func55, Try.ntmps55
  go_wp2
  go_loop [8] (fun i => ∃ k : Nat, k ≤ n ∧ i = .int .i64 k ∧ Hid (∀ (j : Nat) z, j < k → l[j]? = some z → z ≠ x)) (fun i => n - (intOf i).toNat)
  case atStart => exact ⟨0, by omega, rfl, Lib.hid fun j z h => absurd h (by omega)⟩
  case round =>
    obtain ⟨k, hk, rfl, HP⟩ := hrel
    by_cases hlt : k < n
    · obtain ⟨b, off, z, rfl, hb, hx, hc⟩ := HA.out.at hlt
      have HX := Lib.hid hx
      clear hx
      by_cases hzx : x = z
      · subst hzx
        go_wp2
        go_ret
        exact ⟨ret_int (idxOf_yes HX.out HP.out).symm, rfl⟩
      · have hb : (x == z) = false := by simpa using hzx
        have HZ := Lib.hid hzx
        clear hzx
        go_wp2
        exact ⟨⟨k + 1, by omega, by go_num, Lib.hid fun j y hj hy => by
          rcases Nat.lt_or_ge j k with h | h
          · exact HP.out j y h hy
          · rw [show j = k by omega, HX.out] at hy
            injection hy with hy
            rw [← hy]; exact fun e => HZ.out e.symm⟩, by simp [intOf]; omega⟩
    · have HQ := Lib.hid (idxOf_no (l := l) (x := x) fun j z hz => HP.out j z (by have := (List.getElem?_eq_some_iff.1 hz).1; have := HA.out.1.1; omega) hz)
      go_wp2
      go_ret
      exact ⟨ret_int HQ.out.symm, rfl⟩
theorem contains_any (A : Option Addr) (n c : Nat) (l : List Int) (x : Int) (w : World) (ha : IntsAt w w.heap.size A n l) :
    Calls Try.prog 41 #[.slice A n c, .int .i64 x] w fun e w' => e = .returned (.bool (l.contains x)) ∧ w = w' := by
  have HQ := Lib.hid (idxOf_has l x)
  go_enter Try.func41, Try.ntmps41
  go_wp2_with fail
  refine (index_any _ _ _ _ _ _ ha).mono ?_
  rintro e w' ⟨rfl, rfl⟩
  go_wp2_with fail
  go_ret
  exact ⟨ret_bool HQ.out, rfl⟩
end Go.Proofs.Yteffpeokialeiaa
