/-
  Walks: whether files are valid and in order, both.
-/
import Derived.Test.YtklpghpfdeojeaaSc
import Derived.Laws.Cover1
namespace Go.Proofs.Ytklpghpfdeojeaa
open Go.RowKit

/-- a file behind another one -/
def ordAt (p : Option F) (x : F) : Bool := namedB x.name && decide ((x.text.size : Int) ≤ 16384) && (match p with | some y => Op.bytesLess y.name.toList x.name.toList | none => true)
def prevOf (l : List F) : Nat → Option F
  | 0 => none
  | i + 1 => l[i]?
def orderedTo (l : List F) : Nat → Bool
  | 0 => true
  | i + 1 => orderedTo l i && (match l[i]? with | some x => ordAt (prevOf l i) x | none => true)
def orderedB (l : List F) : Bool := orderedTo l l.length
theorem orderedTo_next {l : List F} {i : Nat} {x : F} (hx : l[i]? = some x) (h : orderedTo l i = true) : orderedTo l (i + 1) = ordAt (prevOf l i) x := by
  simp [orderedTo, h, hx]
theorem orderedTo_mono {l : List F} {i : Nat} (h : orderedTo l i = false) : ∀ j, orderedTo l (i + j) = false
  | 0 => h
  | j + 1 => by rw [← Nat.add_assoc, orderedTo, orderedTo_mono h j, Bool.false_and]
theorem orderedTo_bad {l : List F} {i : Nat} {b : Bool} (h : orderedTo l (i + 1) = b) (hb : b = false) : orderedB l = false := by
  rw [hb] at h
  rcases Nat.lt_or_ge l.length (i + 1) with h1 | h1
  · have h2 : l[i]? = none := List.getElem?_eq_none (by omega)
    rw [orderedTo, h2, Bool.and_true] at h
    unfold orderedB
    rcases Nat.lt_or_ge l.length i with h3 | h3
    · cases hq : orderedTo l l.length
      · rfl
      · exfalso
        have : ∀ j, orderedTo l (l.length + j) = true := fun j => by
          induction j with
          | zero => exact hq
          | succ j ih =>
            rw [← Nat.add_assoc, orderedTo, ih, List.getElem?_eq_none (by omega)]
            rfl
        have h4 := this (i - l.length)
        rw [show l.length + (i - l.length) = i by omega, h] at h4
        cases h4
    · rw [show l.length = i by omega]; exact h
  · have := orderedTo_mono h (l.length - (i + 1))
    rw [show i + 1 + (l.length - (i + 1)) = l.length by omega] at this
    exact this

set_option maxHeartbeats 1000000 in
theorem ordered_any (A : Option Addr) (n c : Nat) (l : List F) (w : World) (ha : FilesAt w w.heap.size A n l) :
    Calls Try.prog 29 #[.slice A n c] w fun e w' => e = .returned (.bool (orderedB l)) ∧ Below w.heap.size w w' := by
  have hn := ha.1.2
  have hl := ha.1.1
  have HA := Lib.hid ha
  clear ha
  go_enter Try.func29, Try.ntmps29
  go_wp2
  go_loopw [7] (fun i wr => ∃ k : Nat, k ≤ n ∧ i = .int .i64 k ∧ Hid (orderedTo l k = true) ∧ Hid (Below w.heap.size w wr)) (fun i _ => n - (intOf i).toNat)
  case atStart => exact ⟨0, by omega, rfl, rfl, Below.refl _ _⟩
  case round =>
    obtain ⟨k, hk, rfl, HP, HB⟩ := hrel
    have hz := HB.out.size
    by_cases hlt : k < n
    · obtain ⟨b, off, x, rfl, hb, hx, hx4⟩ := HA.out.at hlt
      obtain ⟨q0, q1⟩ := hx4.below hb HB.out
      have HX := Lib.hid hx
      have hnx := orderedTo_next hx HP.out
      clear hx hx4
      have hcq := fun w => (named_any x.name w).mono (fun _ _ h => And.intro h.1 h.2.symm)
      cases hnm : namedB x.name
      · have HF := Lib.hid (orderedTo_bad (l := l) hnx (by simp [ordAt, hnm]))
        rw [hnm] at hcq
        clear hnx
        go_wp2_with fail
        go_quiet (exact Calls.quiet_of_same (hcq _))
        go_wp2_with fail
        go_ret
        exact ⟨ret_bool HF.out.symm, bDrewN (HB.out.alloc HB.out.size _) _⟩
      · rw [hnm] at hcq
        by_cases hsz : (x.text.size : Int) ≤ 16384
        · have hs1 : decide (16384 < (x.text.size : Int)) = false := by simp; omega
          cases k with
          | zero =>
            simp only [Nat.zero_mul, Nat.add_zero] at q0 q1
            have HF := Lib.hid (show orderedTo l (0 + 1) = true from hnx.trans (by simp [ordAt, prevOf, hnm, hsz]))
            have hk1 : decide (0 < ((0 : Nat) : Int)) = false := by simp
            clear hnx
            go_wp2_with fail
            go_quiet (exact Calls.quiet_of_same (hcq _))
            go_wp2_with fail
            exact ⟨⟨1, by omega, by go_num, HF.out, bDrewN (HB.out.alloc HB.out.size _) _⟩, by simp [intOf]; omega⟩
          | succ m =>
            have hk1 : decide (0 < ((m + 1 : Nat) : Int)) = true := by simp
            have hbz : b < wr.heap.size := by omega
            have hmn : m < n := by omega
            have hmn2 : (m : Int) < (n : Int) := by omega
            have hwm : IntKind.i64.wrap (m : Int) = m := by rw [IntKind.wrap_i64]; omega
            obtain ⟨b', off', y, e1, hb', hy, hy4⟩ := HA.out.at (i := m) (by omega)
            injection e1 with e1
            injection e1 with e1 e2
            subst e1 e2
            obtain ⟨r0, r1⟩ := hy4.below hb' HB.out
            cases hls : Op.bytesLess y.name.toList x.name.toList
            · have HF := Lib.hid (orderedTo_bad (l := l) hnx (by simp [ordAt, prevOf, hy, hls]))
              clear hnx hy hy4
              go_wp2_with fail
              go_quiet (exact Calls.quiet_of_same (hcq _))
              go_wp2_with fail
              go_ret
              exact ⟨ret_bool HF.out.symm, bDrewN (HB.out.alloc HB.out.size _) _⟩
            · have HF := Lib.hid (show orderedTo l (m + 1 + 1) = true from hnx.trans (by simp [ordAt, prevOf, hnm, hsz, hy, hls]))
              clear hnx hy hy4
              go_wp2_with fail
              go_quiet (exact Calls.quiet_of_same (hcq _))
              go_wp2_with fail
              exact ⟨⟨m + 1 + 1, by omega, by go_num, HF.out, bDrewN (HB.out.alloc HB.out.size _) _⟩, by simp [intOf]; omega⟩
        · have hs1 : decide (16384 < (x.text.size : Int)) = true := by simp; omega
          have HF := Lib.hid (orderedTo_bad (l := l) hnx (by simp [ordAt, hsz]))
          clear hnx
          go_wp2_with fail
          go_quiet (exact Calls.quiet_of_same (hcq _))
          go_wp2_with fail
          go_ret
          exact ⟨ret_bool HF.out.symm, bDrewN (HB.out.alloc HB.out.size _) _⟩
    · have HF := Lib.hid (show orderedB l = true by rw [orderedB, show l.length = k by omega]; exact HP.out)
      go_wp2_with fail
      go_ret
      exact ⟨ret_bool HF.out.symm, HB.out⟩

set_option maxHeartbeats 1000000 in
theorem validFiles_any (A : Option Addr) (n c : Nat) (l : List F) (w : World) (ha : FilesAt w w.heap.size A n l) :
    Calls Try.prog 32 #[.slice A n c] w fun e w' => e = .returned (.bool (orderedB l)) ∧ Below w.heap.size w w' := by
  have hn := ha.1.2
  have hl := ha.1.1
  have HA := Lib.hid ha
  clear ha
  go_enter Try.func32, Try.ntmps32
  go_wp2
  go_loopw [3] (fun i wr => ∃ k : Nat, k ≤ n ∧ i = .int .i64 k ∧ Hid (orderedTo l k = true) ∧ Hid (Below w.heap.size w wr)) (fun i _ => n - (intOf i).toNat)
  case atStart => exact ⟨0, by omega, rfl, rfl, Below.refl _ _⟩
  case round =>
    obtain ⟨k, hk, rfl, HP, HB⟩ := hrel
    have hz := HB.out.size
    by_cases hlt : k < n
    · obtain ⟨b, off, x, rfl, hb, hx, hx4⟩ := HA.out.at hlt
      obtain ⟨q0, q1⟩ := hx4.below hb HB.out
      have HX := Lib.hid hx
      have hnx := orderedTo_next hx HP.out
      clear hx hx4
      have hcq := fun w => (isName_any x.name w).mono (fun _ _ h => And.intro h.1 h.2.symm)
      cases hnm : namedB x.name
      · have HF := Lib.hid (orderedTo_bad (l := l) hnx (by simp [ordAt, hnm]))
        rw [hnm] at hcq
        clear hnx
        go_wp2_with fail
        go_quiet (exact Calls.quiet_of_same (hcq _))
        go_wp2_with fail
        go_ret
        exact ⟨ret_bool HF.out.symm, bDrewN HB.out _⟩
      · rw [hnm] at hcq
        by_cases hsz : (x.text.size : Int) ≤ 16384
        · have hs1 : decide (16384 < (x.text.size : Int)) = false := by simp; omega
          cases k with
          | zero =>
            simp only [Nat.zero_mul, Nat.add_zero] at q0 q1
            have HF := Lib.hid (show orderedTo l (0 + 1) = true from hnx.trans (by simp [ordAt, prevOf, hnm, hsz]))
            have hk1 : decide (0 < ((0 : Nat) : Int)) = false := by simp
            clear hnx
            go_wp2_with fail
            go_quiet (exact Calls.quiet_of_same (hcq _))
            go_wp2_with fail
            exact ⟨⟨1, by omega, by go_num, HF.out, bDrewN HB.out _⟩, by simp [intOf]; omega⟩
          | succ m =>
            have hk1 : decide (0 < ((m + 1 : Nat) : Int)) = true := by simp
            have hbz : b < wr.heap.size := by omega
            have hmn : m < n := by omega
            have hmn2 : (m : Int) < (n : Int) := by omega
            have hwm : IntKind.i64.wrap (m : Int) = m := by rw [IntKind.wrap_i64]; omega
            obtain ⟨b', off', y, e1, hb', hy, hy4⟩ := HA.out.at (i := m) (by omega)
            injection e1 with e1
            injection e1 with e1 e2
            subst e1 e2
            obtain ⟨r0, r1⟩ := hy4.below hb' HB.out
            cases hls : Op.bytesLess y.name.toList x.name.toList
            · have HF := Lib.hid (orderedTo_bad (l := l) hnx (by simp [ordAt, prevOf, hy, hls]))
              clear hnx hy hy4
              go_wp2_with fail
              go_quiet (exact Calls.quiet_of_same (hcq _))
              go_wp2_with fail
              go_ret
              exact ⟨ret_bool HF.out.symm, bDrewN HB.out _⟩
            · have HF := Lib.hid (show orderedTo l (m + 1 + 1) = true from hnx.trans (by simp [ordAt, prevOf, hnm, hsz, hy, hls]))
              clear hnx hy hy4
              go_wp2_with fail
              go_quiet (exact Calls.quiet_of_same (hcq _))
              go_wp2_with fail
              exact ⟨⟨m + 1 + 1, by omega, by go_num, HF.out, bDrewN HB.out _⟩, by simp [intOf]; omega⟩
        · have hs1 : decide (16384 < (x.text.size : Int)) = true := by simp; omega
          have HF := Lib.hid (orderedTo_bad (l := l) hnx (by simp [ordAt, hsz]))
          clear hnx
          go_wp2_with fail
          go_quiet (exact Calls.quiet_of_same (hcq _))
          go_wp2_with fail
          go_ret
          exact ⟨ret_bool HF.out.symm, bDrewN HB.out _⟩
    · have HF := Lib.hid (show orderedB l = true by rw [orderedB, show l.length = k by omega]; exact HP.out)
      go_wp2_with fail
      go_ret
      exact ⟨ret_bool HF.out.symm, HB.out⟩
end Go.Proofs.Ytklpghpfdeojeaa
