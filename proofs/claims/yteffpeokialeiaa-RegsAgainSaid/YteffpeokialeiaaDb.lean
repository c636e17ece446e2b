/-
  The walk of RegsAgain (f8).
-/
import Derived.Test.YteffpeokialeiaaDa
import Derived.Test.YteffpeokialeiaaCf
import Derived.Outline
namespace Go.Proofs.Yteffpeokialeiaa
open Go.RowKit

set_option maxRecDepth 100000 in
set_option maxHeartbeats 1000000 in
theorem law_again (A : Option Addr) (n c : Nat) (l : List In) (base : Int) (w : World) (ha : InsAt w w.heap.size A n l) (_hbr : -9223372036854775808 ≤ base ∧ base ≤ 9223372036854775807) :
    Calls Try.prog 8 #[.slice A n c, .int .i64 base] w fun e w' => e = .returned (.bool true) ∧ Below w.heap.size w w' := by
  have HA := Lib.hid ha
  have hn2 := ha.1.2
  clear ha
  by_cases hn : n ≤ 60
  · have d0 : decide ((60 : Int) < (n : Int)) = false := by simp; omega
    go_enter Try.func8, Try.ntmps8
    go_wp2_with fail
    refine (assign_any A n c l base w HA.out hn).mono ?_
    cases hv : validP l base with
    | false =>
      rintro e w1 ⟨v, rfl, ho⟩
      have HB := Lib.hid ho.2
      rw [show errP l base = 1 by unfold errP; rw [hv]; rfl]
      have ha0 : assignP l base = [] := by unfold assignP; rw [hv]; rfl
      rw [ha0] at ho
      obtain ⟨A3, c3, rfl, _⟩ := own_form ho.1
      clear hv ho ha0
      simp only [List.length_nil]
      go_wp2_with fail
      refine (awake_any _).mono ?_
      rintro e w2 ⟨rfl, hb2⟩
      have HB2 := Lib.hid (bNext HB.out hb2)
      clear hb2
      go_wp2_with fail
      go_ret
      exact ⟨rfl, HB2.out⟩
    | true =>
      have hln := HA.out.len
      have hll : (assignP l base).length = n := by rw [assign_len hv, hln]
      have HP := Lib.hid (again_plain hv)
      rintro e w1 ⟨v, rfl, ho⟩
      obtain ⟨A1, c1, rfl, hi1⟩ := ho.form (by rw [hll]; omega)
      rw [hll] at hi1 ⊢
      rw [show errP l base = 0 by unfold errP; rw [hv]; rfl]
      have HI1 := Lib.hid hi1
      have HB1 := Lib.hid ho.2
      have HA1 := Lib.hid (HA.out.next ho.2)
      have HLL := Lib.hid hll
      clear hv ho hi1 hll hln
      go_wp2_with fail
      refine (assign_any A1 n c1 (assignP l base) base w1 HI1.out hn).mono ?_
      rintro e w2 ⟨v2, rfl, ho2⟩
      rw [HP.out.2.1] at ho2
      obtain ⟨A2, c2, rfl, hi2⟩ := ho2.form (by rw [HLL.out]; omega)
      rw [HLL.out] at hi2 ⊢
      rw [show errP (assignP l base) base = 0 by unfold errP; rw [HP.out.1]; rfl]
      have HI2 := Lib.hid hi2
      have HI1' := Lib.hid (HI1.out.next ho2.2)
      have HB2 := Lib.hid (bNext HB1.out ho2.2)
      have HA2 := Lib.hid (HA1.out.next ho2.2)
      clear ho2 hi2
      go_wp2_with fail
      refine (same_eq A2 A1 n c2 c1 (assignP l base) w2 HI2.out HI1'.out).mono ?_
      rintro e w3 ⟨rfl, hb3⟩
      have HI3 := Lib.hid (HI1'.out.next hb3)
      have HB3 := Lib.hid (bNext HB2.out hb3)
      have HA3 := Lib.hid (HA2.out.next hb3)
      clear hb3
      go_wp2_with fail
      refine (need_any A1 n c1 (assignP l base) base w3 HI3.out hn).mono ?_
      rw [HP.out.2.2]
      rintro e w4 ⟨rfl, hb4⟩
      have HB4 := Lib.hid (bNext HB3.out hb4)
      have HA4 := Lib.hid (HA3.out.next hb4)
      clear hb4
      go_wp2_with fail
      refine (need_any A n c l base w4 HA4.out hn).mono ?_
      rintro e w5 ⟨rfl, hb5⟩
      have HB5 := Lib.hid (bNext HB4.out hb5)
      clear hb5
      go_wp2_with fail
      refine (awake_any _).mono ?_
      rintro e w6 ⟨rfl, hb6⟩
      have HB6 := Lib.hid (bNext HB5.out hb6)
      clear hb6
      go_wp2_with fail
      go_ret
      exact ⟨rfl, HB6.out⟩
  · have d0 : decide ((60 : Int) < (n : Int)) = true := by simp; omega
    go_enter Try.func8, Try.ntmps8
    go_wp2_with fail
    refine (awake_any _).mono ?_
    rintro e w1 ⟨rfl, hb⟩
    have HB := Lib.hid hb
    clear hb
    go_wp2_with fail
    go_ret
    exact ⟨rfl, HB.out⟩
end Go.Proofs.Yteffpeokialeiaa
