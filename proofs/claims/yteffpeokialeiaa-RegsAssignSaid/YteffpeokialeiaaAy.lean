/-
  Walks: down.
-/
import Derived.Test.YteffpeokialeiaaAw
namespace Go.Proofs.Yteffpeokialeiaa
open Go.RowKit

def RetDown (w : World) (fb base n : Nat) (v : Value) (l : List Int) (e : Ending) (w' : World) : Prop :=
  ∃ (b : Bool) (l' : List Int), e = .returned (.bool b) ∧ Sifted w w' fb base v l l' ∧ IsH l' n ∧ ∀ k, n ≤ k → at_ l' k = at_ l k
set_option maxRecDepth 100000 in
set_option maxHeartbeats 1000000 in
theorem down_any (fb base : Nat) (v : Value) (l : List Int) (n : Nat) (w : World) (h : Hp w fb base v l) (hn : l.length ≤ 1000000) (hl0 : 0 < l.length) (hnl : n ≤ l.length) (hI : DnI l n 0) :
    Calls Try.prog 56 #[.iface 61 (.pointer (some ⟨fb, 0, none⟩)), .int .i64 0, .int .i64 n] w (RetDown w fb base n v l) := by
  obtain ⟨A, c, rfl⟩ := h.form
  obtain ⟨g, rfl⟩ := own_some h.2 (by omega)
  have H := Lib.hid h
  have HI := Lib.hid hI
  clear h hI
  go_enter Try.func56, Try.ntmps56
  go_wp2_with fail
  go_loopw [7] (fun i wr => ∃ (i' : Nat) (l' : List Int), i = .int .i64 i' ∧ l'.length = l.length ∧ i' < max n 1 ∧ Hid (Sifted w wr fb base (.slice (some ⟨g, 0, none⟩) l.length c) l l') ∧ Hid (DnI l' n i') ∧ Hid (∀ k, n ≤ k → at_ l' k = at_ l k)) (fun i _ => n - (intOf i).toNat)
  case atStart => exact ⟨0, l, rfl, rfl, by omega, Lib.hid ⟨H.out, List.Perm.refl _, Touch.refl _ _ _, rfl⟩, HI, Lib.hid fun _ _ => rfl⟩
  case round =>
    obtain ⟨i, l', rfl, hll, hi, HS, HU, HF⟩ := hrel
    have hc : wr.cell? ⟨fb, 0, none⟩ = some (.slice (some ⟨g, 0, none⟩) l.length c) := HS.out.1.1.cell 0
    have ml := meth_val row_less hc
    have HO := Lib.hid HS.out.1.2
    rw [show l'.length = l.length from hll] at HO
    have h2i : (0 : Int) ≤ 2 * (i : Int) + 1 := by omega
    obtain ⟨j1, r1⟩ : ∃ j1 : Nat, 2 * (i : Int) + 1 = (j1 : Int) := ⟨2 * i + 1, by omega⟩
    obtain ⟨j2, r2⟩ : ∃ j2 : Nat, (j1 : Int) + 1 = (j2 : Int) := ⟨j1 + 1, by omega⟩
    by_cases h1 : j1 < n
    · have e1 : decide ((n : Int) ≤ (j1 : Int)) = false := by simp; omega
      have e0 : decide ((j1 : Int) < 0) = false := by simp
      by_cases h2 : j2 < n
      · have e2 : decide ((j2 : Int) < (n : Int)) = true := by simp; omega
        go_wp2_with fail
        refine (less_any g l.length c base l' j2 j1 _ _ _ HO.out (by omega) (at_get (by omega)) (at_get (by omega))).mono ?_
        rintro e w2 ⟨rfl, k2, rfl⟩
        have HS2 := Lib.hid (HS.out.drewN k2)
        have ml2 := meth_val row_less (w := wr.drewN k2) (v := .slice (some ⟨g, 0, none⟩) l.length c) hc
        cases hb2 : decide (at_ l' j2 < at_ l' j1) with
        | true =>
          have HB2 : Hid (at_ l' j2 < at_ l' j1) := Lib.hid (by simpa using hb2)
          clear hb2
          go_wp2_with fail
          refine (less_any g l.length c base l' j2 i _ _ ((wr.drewN k2)) HO.out (by omega) (at_get (by omega)) (at_get (by omega))).mono ?_
          rintro e w5 ⟨rfl, k5, rfl⟩
          have HS5 := Lib.hid (HS.out.drewN (k2 + k5))
          have HM : Hid (∀ k, 0 < k → k < n → (k - 1) / 2 = i → at_ l' (j2) ≤ at_ l' k) := Lib.hid (by intro k k0 kn kp; have := HB2.out; rcases (by omega : k = j1 ∨ k = j2) with rfl | rfl <;> omega)
          cases hb : decide (at_ l' (j2) < at_ l' i) with
          | false =>
            have HE : Hid (IsH l' n) := Lib.hid (dn_end HU.out (fun k k0 kn kp => by
              have h1 := HM.out k k0 kn kp
              have : ¬ at_ l' (j2) < at_ l' i := by simpa using hb
              omega))
            clear hb
            go_wp2_with fail
            go_ret
            exact ⟨_, l', rfl, HS5.out, HE.out, HF.out⟩
          | true =>
            have HL : Hid (at_ l' (j2) < at_ l' i) := Lib.hid (by simpa using hb)
            clear hb
            have ms5 := meth_val row_swap (w := wr.drewN (k2 + k5)) (v := .slice (some ⟨g, 0, none⟩) l.length c) hc
            go_wp2_with fail
            refine (swap_any g l.length c base l' i (j2) _ _ (wr.drewN (k2 + k5)) HO.out (by omega) (at_get (by omega)) (at_get (by omega))).mono ?_
            rintro e w6 ⟨rfl, ho, hg, hz⟩
            have HS6 : Hid (Sifted w w6 fb base (.slice (some ⟨g, 0, none⟩) l.length c) l (swapL l' i (j2) (at_ l' i) (at_ l' (j2)))) := Lib.hid (HS5.out.swap (by omega) (by omega) (by rw [hll]; exact ho) hg hz)
            have HU6 : Hid (DnI (swapL l' i (j2) (at_ l' i) (at_ l' (j2))) n (j2)) := Lib.hid (dn_step HU.out (by omega) (by omega) (by omega) (by omega) HM.out HL.out)
            have HF6 : Hid (∀ k, n ≤ k → at_ (swapL l' i (j2) (at_ l' i) (at_ l' (j2))) k = at_ l k) := Lib.hid fun k hk => by
              rw [at_swap (by omega) (by omega), if_neg (by omega), if_neg (by omega)]; exact HF.out k hk
            clear ho hg hz
            go_wp2_with fail
            exact ⟨⟨j2, _, by go_num, by rw [swapL_len]; exact hll, by omega, HS6, HU6, HF6⟩, by simp [intOf]; omega⟩
        | false =>
          have HB2 : Hid (at_ l' j1 ≤ at_ l' j2) := Lib.hid (by have : ¬ at_ l' j2 < at_ l' j1 := by simpa using hb2
                                                                omega)
          clear hb2
          go_wp2_with fail
          refine (less_any g l.length c base l' j1 i _ _ ((wr.drewN k2)) HO.out (by omega) (at_get (by omega)) (at_get (by omega))).mono ?_
          rintro e w5 ⟨rfl, k5, rfl⟩
          have HS5 := Lib.hid (HS.out.drewN (k2 + k5))
          have HM : Hid (∀ k, 0 < k → k < n → (k - 1) / 2 = i → at_ l' (j1) ≤ at_ l' k) := Lib.hid (by intro k k0 kn kp; have := HB2.out; rcases (by omega : k = j1 ∨ k = j2) with rfl | rfl <;> omega)
          cases hb : decide (at_ l' (j1) < at_ l' i) with
          | false =>
            have HE : Hid (IsH l' n) := Lib.hid (dn_end HU.out (fun k k0 kn kp => by
              have h1 := HM.out k k0 kn kp
              have : ¬ at_ l' (j1) < at_ l' i := by simpa using hb
              omega))
            clear hb
            go_wp2_with fail
            go_ret
            exact ⟨_, l', rfl, HS5.out, HE.out, HF.out⟩
          | true =>
            have HL : Hid (at_ l' (j1) < at_ l' i) := Lib.hid (by simpa using hb)
            clear hb
            have ms5 := meth_val row_swap (w := wr.drewN (k2 + k5)) (v := .slice (some ⟨g, 0, none⟩) l.length c) hc
            go_wp2_with fail
            refine (swap_any g l.length c base l' i (j1) _ _ (wr.drewN (k2 + k5)) HO.out (by omega) (at_get (by omega)) (at_get (by omega))).mono ?_
            rintro e w6 ⟨rfl, ho, hg, hz⟩
            have HS6 : Hid (Sifted w w6 fb base (.slice (some ⟨g, 0, none⟩) l.length c) l (swapL l' i (j1) (at_ l' i) (at_ l' (j1)))) := Lib.hid (HS5.out.swap (by omega) (by omega) (by rw [hll]; exact ho) hg hz)
            have HU6 : Hid (DnI (swapL l' i (j1) (at_ l' i) (at_ l' (j1))) n (j1)) := Lib.hid (dn_step HU.out (by omega) (by omega) (by omega) (by omega) HM.out HL.out)
            have HF6 : Hid (∀ k, n ≤ k → at_ (swapL l' i (j1) (at_ l' i) (at_ l' (j1))) k = at_ l k) := Lib.hid fun k hk => by
              rw [at_swap (by omega) (by omega), if_neg (by omega), if_neg (by omega)]; exact HF.out k hk
            clear ho hg hz
            go_wp2_with fail
            exact ⟨⟨j1, _, by go_num, by rw [swapL_len]; exact hll, by omega, HS6, HU6, HF6⟩, by simp [intOf]; omega⟩
      · have e2 : decide ((j2 : Int) < (n : Int)) = false := by simp; omega
        go_wp2_with fail
        refine (less_any g l.length c base l' j1 i _ _ (wr) HO.out (by omega) (at_get (by omega)) (at_get (by omega))).mono ?_
        rintro e w5 ⟨rfl, k5, rfl⟩
        have HS5 := Lib.hid (HS.out.drewN k5)
        have HM : Hid (∀ k, 0 < k → k < n → (k - 1) / 2 = i → at_ l' (j1) ≤ at_ l' k) := Lib.hid (fun k k0 kn kp => by rw [show k = j1 by omega]; exact Int.le_refl _)
        cases hb : decide (at_ l' (j1) < at_ l' i) with
        | false =>
          have HE : Hid (IsH l' n) := Lib.hid (dn_end HU.out (fun k k0 kn kp => by
            have h1 := HM.out k k0 kn kp
            have : ¬ at_ l' (j1) < at_ l' i := by simpa using hb
            omega))
          clear hb
          go_wp2_with fail
          go_ret
          exact ⟨_, l', rfl, HS5.out, HE.out, HF.out⟩
        | true =>
          have HL : Hid (at_ l' (j1) < at_ l' i) := Lib.hid (by simpa using hb)
          clear hb
          have ms5 := meth_val row_swap (w := wr.drewN k5) (v := .slice (some ⟨g, 0, none⟩) l.length c) hc
          go_wp2_with fail
          refine (swap_any g l.length c base l' i (j1) _ _ (wr.drewN k5) HO.out (by omega) (at_get (by omega)) (at_get (by omega))).mono ?_
          rintro e w6 ⟨rfl, ho, hg, hz⟩
          have HS6 : Hid (Sifted w w6 fb base (.slice (some ⟨g, 0, none⟩) l.length c) l (swapL l' i (j1) (at_ l' i) (at_ l' (j1)))) := Lib.hid (HS5.out.swap (by omega) (by omega) (by rw [hll]; exact ho) hg hz)
          have HU6 : Hid (DnI (swapL l' i (j1) (at_ l' i) (at_ l' (j1))) n (j1)) := Lib.hid (dn_step HU.out (by omega) (by omega) (by omega) (by omega) HM.out HL.out)
          have HF6 : Hid (∀ k, n ≤ k → at_ (swapL l' i (j1) (at_ l' i) (at_ l' (j1))) k = at_ l k) := Lib.hid fun k hk => by
            rw [at_swap (by omega) (by omega), if_neg (by omega), if_neg (by omega)]; exact HF.out k hk
          clear ho hg hz
          go_wp2_with fail
          exact ⟨⟨j1, _, by go_num, by rw [swapL_len]; exact hll, by omega, HS6, HU6, HF6⟩, by simp [intOf]; omega⟩
    · have e1 : decide ((n : Int) ≤ (j1 : Int)) = true := by simp; omega
      have HE : Hid (IsH l' n) := Lib.hid (dn_end HU.out (fun k k0 kn kp => by omega))
      go_wp2_with fail
      go_ret
      exact ⟨_, l', rfl, HS.out, HE.out, HF.out⟩
end Go.Proofs.Yteffpeokialeiaa
