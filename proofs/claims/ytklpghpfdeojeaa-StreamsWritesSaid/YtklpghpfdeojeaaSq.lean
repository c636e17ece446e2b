/-
  Walks: the searches of Open and of Find.
-/
import Derived.Test.YtklpghpfdeojeaaSc
import Derived.Test.YtklpghpfdeojeaaSb
namespace Go.Proofs.Ytklpghpfdeojeaa
open Go.RowKit

@[reducible] def apP (x y : G) : Bool := !apartB x y
@[reducible] def aliasP (name : ByteArray) (y : G) : Bool := y.alias_.toList == name.toList
theorem open1_any (y : G) (b : Nat) (x0 : G) (w : World) (hc0 : w.cell? ⟨b, 0, none⟩ = some (.int .i64 x0.id)) (hc1 : w.cell? ⟨b, 1, none⟩ = some (.string x0.file)) (hc2 : w.cell? ⟨b, 2, none⟩ = some (.int .i64 x0.mode)) (hc3 : w.cell? ⟨b, 3, none⟩ = some (.int .i64 x0.pos)) (hc4 : w.cell? ⟨b, 4, none⟩ = some (.string x0.alias_)) (hc5 : w.cell? ⟨b, 5, none⟩ = some (.int .i64 x0.eof)) (hc6 : w.cell? ⟨b, 6, none⟩ = some (.bool x0.past)) (hb : b < w.heap.size) :
    Calls Try.prog 43 #[y.v, .pointer (some ⟨b, 0, none⟩)] w fun e w' => e = .returned (.bool (apP x0 y)) ∧ Below w.heap.size w w' := by
  go_enter Try.func43, Try.ntmps43
  go_wp2_with fail
  refine (apart_any x0 y _).mono ?_
  rintro e w1 ⟨rfl, hb1⟩
  have HB := Lib.hid (bStart hb1)
  clear hb1
  go_wp2_with fail
  go_ret
  exact ⟨rfl, HB.out⟩
theorem find1_any (y : G) (b : Nat) (name : ByteArray) (w : World) (hc0 : w.cell? ⟨b, 0, none⟩ = some (.string name)) (hb : b < w.heap.size) :
    Calls Try.prog 50 #[y.v, .pointer (some ⟨b, 0, none⟩)] w fun e w' => e = .returned (.bool (aliasP name y)) ∧ Below w.heap.size w w' := by
  go_enter Try.func50, Try.ntmps50
  go_wp2
  go_ret
  exact ⟨rfl, bAlloc _ _⟩

set_option maxHeartbeats 400000 in
theorem index43_any (A : Option Addr) (n c : Nat) (l : List G) (bp : Nat) (x0 : G) (w : World) (ha : OpensAt w w.heap.size A n l) (hbp : bp < w.heap.size) (hc0 : w.cell? ⟨bp, 0, none⟩ = some (.int .i64 x0.id)) (hc1 : w.cell? ⟨bp, 1, none⟩ = some (.string x0.file)) (hc2 : w.cell? ⟨bp, 2, none⟩ = some (.int .i64 x0.mode)) (hc3 : w.cell? ⟨bp, 3, none⟩ = some (.int .i64 x0.pos)) (hc4 : w.cell? ⟨bp, 4, none⟩ = some (.string x0.alias_)) (hc5 : w.cell? ⟨bp, 5, none⟩ = some (.int .i64 x0.eof)) (hc6 : w.cell? ⟨bp, 6, none⟩ = some (.bool x0.past)) :
    Calls Try.prog 42 #[.slice A n c, .func (.func 43) #[] #[.pointer (some ⟨bp, 0, none⟩)]] w fun e w' => e = .returned (.int .i64 (idxI l (apP x0))) ∧ Below w.heap.size w w' := by
  have hn := ha.1.2
  have HA := Lib.hid ha
  have HC0 := Lib.hid hc0
  have HC1 := Lib.hid hc1
  have HC2 := Lib.hid hc2
  have HC3 := Lib.hid hc3
  have HC4 := Lib.hid hc4
  have HC5 := Lib.hid hc5
  have HC6 := Lib.hid hc6
  clear ha hc0 hc1 hc2 hc3 hc4 hc5 hc6
  go_enter Try.func42, Try.ntmps42
  go_wp2
  go_loopw [9] (fun i wr => ∃ k : Nat, k ≤ n ∧ i = .int .i64 k ∧ Hid (∀ (j : Nat) z, j < k → l[j]? = some z → (apP x0) z = false) ∧ Hid (Below w.heap.size w wr)) (fun i _ => n - (intOf i).toNat)
  case atStart => exact ⟨0, by omega, rfl, Lib.hid fun j z h => absurd h (by omega), Below.refl _ _⟩
  case round =>
    obtain ⟨k, hk, rfl, HP, HB⟩ := hrel
    have hz := HB.out.size
    by_cases hlt : k < n
    · obtain ⟨b, off, x, rfl, hb, hx, hx4⟩ := HA.out.at hlt
      obtain ⟨q0, q1, q2, q3, q4, q5, q6⟩ := hx4.below hb HB.out
      have HX := Lib.hid hx
      have HN := Lib.hid (HB.out.alloc hz (.cells #[.int .i64 x.id, .string x.file, .int .i64 x.mode, .int .i64 x.pos, .string x.alias_, .int .i64 x.eof, .bool x.past] 52))
      clear hx hx4
      go_wp2_with fail
      refine (open1_any _ bp x0 _ ((HN.out.cell (p := ⟨bp, 0, none⟩) hbp).trans HC0.out) ((HN.out.cell (p := ⟨bp, 1, none⟩) hbp).trans HC1.out) ((HN.out.cell (p := ⟨bp, 2, none⟩) hbp).trans HC2.out) ((HN.out.cell (p := ⟨bp, 3, none⟩) hbp).trans HC3.out) ((HN.out.cell (p := ⟨bp, 4, none⟩) hbp).trans HC4.out) ((HN.out.cell (p := ⟨bp, 5, none⟩) hbp).trans HC5.out) ((HN.out.cell (p := ⟨bp, 6, none⟩) hbp).trans HC6.out) (by simp; omega)).mono ?_
      rintro e w2 ⟨rfl, hb2⟩
      have HB2 := Lib.hid (bNext HN.out hb2)
      clear hb2
      cases hpx : (apP x0) x
      · have HQ := Lib.hid hpx
        clear hpx
        go_wp2_with fail
        exact ⟨⟨k + 1, by omega, by go_num, Lib.hid fun j z hj hz => by
          rcases Nat.lt_or_ge j k with h | h
          · exact HP.out j z h hz
          · rw [show j = k by omega, HX.out] at hz
            injection hz with hz
            rw [← hz]; exact HQ.out, HB2.out⟩, by simp [intOf]; omega⟩
      · have HQ := Lib.hid (idxI_yes HX.out hpx HP.out)
        clear hpx
        go_wp2_with fail
        go_ret
        exact ⟨ret_int HQ.out.symm, HB2.out⟩
    · have HQ := Lib.hid (idxI_no (l := l) (p := apP x0) fun j z hz => HP.out j z (by have := (List.getElem?_eq_some_iff.1 hz).1; have := HA.out.1.1; omega) hz)
      go_wp2_with fail
      go_ret
      exact ⟨ret_int HQ.out.symm, HB.out⟩

set_option maxHeartbeats 400000 in
theorem index50_any (A : Option Addr) (n c : Nat) (l : List G) (bp : Nat) (name : ByteArray) (w : World) (ha : OpensAt w w.heap.size A n l) (hbp : bp < w.heap.size) (hc0 : w.cell? ⟨bp, 0, none⟩ = some (.string name)) :
    Calls Try.prog 42 #[.slice A n c, .func (.func 50) #[] #[.pointer (some ⟨bp, 0, none⟩)]] w fun e w' => e = .returned (.int .i64 (idxI l (aliasP name))) ∧ Below w.heap.size w w' := by
  have hn := ha.1.2
  have HA := Lib.hid ha
  have HC0 := Lib.hid hc0
  clear ha hc0
  go_enter Try.func42, Try.ntmps42
  go_wp2
  go_loopw [9] (fun i wr => ∃ k : Nat, k ≤ n ∧ i = .int .i64 k ∧ Hid (∀ (j : Nat) z, j < k → l[j]? = some z → (aliasP name) z = false) ∧ Hid (Below w.heap.size w wr)) (fun i _ => n - (intOf i).toNat)
  case atStart => exact ⟨0, by omega, rfl, Lib.hid fun j z h => absurd h (by omega), Below.refl _ _⟩
  case round =>
    obtain ⟨k, hk, rfl, HP, HB⟩ := hrel
    have hz := HB.out.size
    by_cases hlt : k < n
    · obtain ⟨b, off, x, rfl, hb, hx, hx4⟩ := HA.out.at hlt
      obtain ⟨q0, q1, q2, q3, q4, q5, q6⟩ := hx4.below hb HB.out
      have HX := Lib.hid hx
      have HN := Lib.hid (HB.out.alloc hz (.cells #[.int .i64 x.id, .string x.file, .int .i64 x.mode, .int .i64 x.pos, .string x.alias_, .int .i64 x.eof, .bool x.past] 52))
      clear hx hx4
      go_wp2_with fail
      refine (find1_any _ bp name _ ((HN.out.cell (p := ⟨bp, 0, none⟩) hbp).trans HC0.out) (by simp; omega)).mono ?_
      rintro e w2 ⟨rfl, hb2⟩
      have HB2 := Lib.hid (bNext HN.out hb2)
      clear hb2
      cases hpx : (aliasP name) x
      · have HQ := Lib.hid hpx
        clear hpx
        go_wp2_with fail
        exact ⟨⟨k + 1, by omega, by go_num, Lib.hid fun j z hj hz => by
          rcases Nat.lt_or_ge j k with h | h
          · exact HP.out j z h hz
          · rw [show j = k by omega, HX.out] at hz
            injection hz with hz
            rw [← hz]; exact HQ.out, HB2.out⟩, by simp [intOf]; omega⟩
      · have HQ := Lib.hid (idxI_yes HX.out hpx HP.out)
        clear hpx
        go_wp2_with fail
        go_ret
        exact ⟨ret_int HQ.out.symm, HB2.out⟩
    · have HQ := Lib.hid (idxI_no (l := l) (p := aliasP name) fun j z hz => HP.out j z (by have := (List.getElem?_eq_some_iff.1 hz).1; have := HA.out.1.1; omega) hz)
      go_wp2_with fail
      go_ret
      exact ⟨ret_int HQ.out.symm, HB.out⟩

end Go.Proofs.Ytklpghpfdeojeaa
