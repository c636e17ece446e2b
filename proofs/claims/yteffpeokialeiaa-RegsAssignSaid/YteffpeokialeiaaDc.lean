/-
  The walk of writer (f23).
-/
import Derived.Test.YteffpeokialeiaaCf
import Derived.Outline
namespace Go.Proofs.Yteffpeokialeiaa
open Go.RowKit

/-- the last instruction before one that writes a register -/
def writerP (l : List In) : Nat → Int → Int
  | 0, _ => -1
  | i + 1, x => match l[i]? with
    | some z => if (wrOf z).contains x then (i : Int) else writerP l i x
    | none => writerP l i x
theorem writer_yes {l : List In} {i : Nat} {z : In} {x : Int} (h : l[i]? = some z) {j : Nat} (hj : (wrOf z)[j]? = some x) : writerP l (i + 1) x = i := by
  show (match l[i]? with | some z => if (wrOf z).contains x then (i : Int) else writerP l i x | none => writerP l i x) = _
  rw [h]; simp only
  rw [if_pos (by simpa using List.mem_of_getElem? hj)]
theorem writer_no {l : List In} {i : Nat} {z : In} {x : Int} (h : l[i]? = some z) (hn : ∀ (j : Nat) y, (wrOf z)[j]? = some y → y ≠ x) : writerP l (i + 1) x = writerP l i x := by
  show (match l[i]? with | some z => if (wrOf z).contains x then (i : Int) else writerP l i x | none => writerP l i x) = _
  rw [h]; simp only
  rw [if_neg]
  intro hc
  obtain ⟨j, hj⟩ := List.mem_iff_getElem?.1 (by simpa using hc)
  exact hn j x hj rfl
set_option maxHeartbeats 1000000 in
theorem writer_any (A : Option Addr) (n c : Nat) (l : List In) (b : Nat) (x : Int) (w : World) (ha : InsAt w w.heap.size A n l) (hb : b ≤ n) (hn : n ≤ 60) :
    Calls Try.prog 23 #[.slice A n c, .int .i64 b, .int .i64 x] w fun e w' => e = .returned (.int .i64 (writerP l b x)) ∧ Below w.heap.size w w' := by
  have HA := Lib.hid ha
  clear ha
  go_enter Try.func23, Try.ntmps23
  go_wp2_with fail
  go_loopw [7] (fun i wr => ∃ k : Nat, i = .int .i64 ((k : Int) - 1) ∧ k ≤ b ∧ Hid (Below w.heap.size w wr) ∧ Hid (writerP l k x = writerP l b x)) (fun i _ => (intOf i + 1).toNat)
  case atStart => exact ⟨b, by go_num, Nat.le_refl _, Lib.hid (Below.refl _ _), Lib.hid rfl⟩
  case round =>
    obtain ⟨k, rfl, hk, HR, HW⟩ := hrel
    rcases k with _ | k
    · go_wp2_with fail
      go_ret
      exact ⟨ret_int HW.out, HR.out⟩
    · have hk1 : (((k + 1 : Nat) : Int) - 1) = (k : Int) := by omega
      rw [hk1]
      clear hk1
      obtain ⟨b1, off, z, rfl, hbb, hx, hcs⟩ := HA.out.at (i := k) (by omega)
      obtain ⟨q0, q1, q2, q3, q4, q5⟩ := hcs.below hbb HR.out
      have HX := Lib.hid hx
      clear hx hcs
      go_wp2_with fail
      refine (writes_any z _).mono ?_
      rintro e w2 ⟨v, rfl, ho⟩
      obtain ⟨A3, c3, rfl, _⟩ := own_form ho.1
      have hwl := wr_len2 z
      have HI := Lib.hid (own_ints ho.1 (by omega))
      have HB := Lib.hid (bNext HR.out ho.2)
      clear ho q0 q1 q2 q3 q4 q5
      go_wp2_with fail
      go_loop [9] (fun i => ∃ j : Nat, i = .int .i64 j ∧ j ≤ (wrOf z).length ∧ Hid (∀ (j' : Nat) y, j' < j → (wrOf z)[j']? = some y → y ≠ x)) (fun i => (wrOf z).length - (intOf i).toNat)
      case atStart => exact ⟨0, rfl, Nat.zero_le _, Lib.hid fun j' y h => absurd h (by omega)⟩
      case round =>
        obtain ⟨j, rfl, hj, HP⟩ := hrel
        by_cases hlt : j < (wrOf z).length
        · obtain ⟨b4, off4, y, rfl, hb4, hy, hcy⟩ := HI.out.at hlt
          have HY := Lib.hid hy
          clear hy
          by_cases hyx : y = x
          · subst hyx
            have HE := Lib.hid (writer_yes HX.out HY.out)
            go_wp2_with fail
            go_ret
            exact ⟨ret_int (by rw [← HW.out, HE.out]), HB.out⟩
          · have hb2 : (y == x) = false := by simpa using hyx
            have HZ := Lib.hid hyx
            clear hyx
            go_wp2_with fail
            exact ⟨⟨j + 1, by go_num, by omega, Lib.hid fun j' u hj' hu => by
              rcases Nat.lt_or_ge j' j with h | h
              · exact HP.out j' u h hu
              · rw [show j' = j by omega, HY.out] at hu
                injection hu with hu
                rw [← hu]; exact HZ.out⟩, by simp [intOf]; omega⟩
        · have HE := Lib.hid (writer_no HX.out fun j' y hy => HP.out j' y (by have := (List.getElem?_eq_some_iff.1 hy).1; omega) hy)
          go_wp2_with fail
          exact ⟨⟨k, by go_num, by omega, HB, Lib.hid (by rw [← HE.out]; exact HW.out)⟩, by simp [intOf]⟩
end Go.Proofs.Yteffpeokialeiaa
