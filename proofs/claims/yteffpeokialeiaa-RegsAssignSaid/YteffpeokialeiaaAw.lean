/-
  Walks: up, down, Push, Pop.
-/
import Derived.Test.YteffpeokialeiaaAv
import Derived.Deep.DeepCutAuto
namespace Go.Proofs.Yteffpeokialeiaa
open Go.RowKit

section
variable {w w' : World} {fb base : Nat} {l : List Int} {A : Option Addr} {n c : Nat}
theorem Hp.form {v : Value} (h : Hp w fb base v l) : ∃ A c, v = .slice A l.length c := by
  obtain ⟨A, c, rfl, _⟩ := own_form h.2
  exact ⟨A, c, rfl⟩
theorem own_some (h : w.ownsRow base 3 1 (.slice A n c) n (iCs l)) (hn : 0 < n) : ∃ g, A = some ⟨g, 0, none⟩ := by
  rcases h.2 with ⟨_, h0⟩ | ⟨g, cap, cur, hv, _⟩
  · omega
  · injection hv with e1 _ _; exact ⟨g, e1⟩
end
/-- what up and down leave: the same row with the same values in another order -/
def Sifted (w w' : World) (fb base : Nat) (v : Value) (l l' : List Int) : Prop := Hp w' fb base v l' ∧ l'.Perm l ∧ Touch w w' fb v v ∧ w'.heap.size = w.heap.size

theorem Sifted.drewN {w w' : World} {fb base : Nat} {v : Value} {l l' : List Int} (h : Sifted w w' fb base v l l') (n : Nat) : Sifted w (w'.drewN n) fb base v l l' := ⟨h.1, h.2.1, h.2.2.1.drewN n, h.2.2.2⟩
theorem Sifted.swap {w w1 w2 : World} {fb base g n c : Nat} {l l' : List Int} {i j : Nat} (h : Sifted w w1 fb base (.slice (some ⟨g, 0, none⟩) n c) l l') (hi : i < l'.length) (hj : j < l'.length)
    (ho : w2.ownsRow base 3 1 (.slice (some ⟨g, 0, none⟩) n c) l'.length (iCs (swapL l' i j (at_ l' i) (at_ l' j)))) (hg : w1.grownBy w2 (some g)) (hz : w2.heap.size = w1.heap.size) :
    Sifted w w2 fb base (.slice (some ⟨g, 0, none⟩) n c) l (swapL l' i j (at_ l' i) (at_ l' j)) := by
  obtain ⟨⟨h1, h2⟩, h3, h4, h5⟩ := h
  have hne : some g ≠ some fb := Hp.ne (v := .slice (some ⟨g, 0, none⟩) n c) ⟨h1, h2⟩
  exact ⟨⟨h1.grown hg hne, by rw [swapL_len]; exact ho⟩, (swap_perm hi hj).trans h3, h4.grown hg, hz.trans h5⟩

set_option maxRecDepth 100000 in
set_option maxHeartbeats 1000000 in
theorem up_any (fb base : Nat) (v : Value) (l : List Int) (j : Nat) (w : World) (h : Hp w fb base v l) (hn : l.length ≤ 1000000) (hj : j < l.length) (hI : UpI l l.length j) :
    Calls Try.prog 54 #[.iface 61 (.pointer (some ⟨fb, 0, none⟩)), .int .i64 j] w fun e w' => e = .returned (.tuple #[]) ∧ ∃ l', Sifted w w' fb base v l l' ∧ IsH l' l.length := by
  obtain ⟨A, c, rfl⟩ := h.form
  obtain ⟨g, rfl⟩ := own_some h.2 (by omega)
  have H := Lib.hid h
  have HI := Lib.hid hI
  clear h hI
  go_enter Try.func54, Try.ntmps54
  go_wp2_with fail
  go_loopw [1] (fun i wr => ∃ (j : Nat) (l' : List Int), i = .int .i64 j ∧ j < l.length ∧ l'.length = l.length ∧ Hid (Sifted w wr fb base (.slice (some ⟨g, 0, none⟩) l.length c) l l') ∧ Hid (UpI l' l.length j)) (fun i _ => (intOf i).toNat)
  case atStart => exact ⟨j, l, rfl, hj, rfl, Lib.hid ⟨H.out, List.Perm.refl _, Touch.refl _ _ _, rfl⟩, HI⟩
  case round =>
    obtain ⟨j, l', rfl, hj, hll, HS, HU⟩ := hrel
    have hc : wr.cell? ⟨fb, 0, none⟩ = some (.slice (some ⟨g, 0, none⟩) l.length c) := HS.out.1.1.cell 0
    have ml := meth_val row_less hc
    by_cases h0 : j = 0
    · subst h0
      have hd : (Int.tdiv (-1) 2) = 0 := by decide
      go_wp2_with fail
      go_end0
      exact ⟨rfl, l', HS.out, up_end HU.out (.inl rfl)⟩
    · have h1 : (0 : Int) ≤ (j : Int) - 1 := by omega
      have h1' : 1 ≤ (j : Int) := by omega
      obtain ⟨p, hpj, hp⟩ : ∃ p : Nat, (j - 1) / 2 = p ∧ ((j : Int) - 1) / 2 = p := ⟨(j - 1) / 2, rfl, by omega⟩
      have HPJ := Lib.hid hpj
      have hne : ((p : Int) == (j : Int)) = false := by rw [beq_eq_false_iff_ne]; omega
      have hpl : p < l'.length := by omega
      clear hpj
      have HO := Lib.hid HS.out.1.2
      rw [show l'.length = l.length from hll] at HO
      go_wp2_with fail
      refine (less_any g l.length c base l' j p _ _ _ HO.out (by omega) (at_get (by omega)) (at_get hpl)).mono ?_
      rintro e w2 ⟨rfl, k2, rfl⟩
      have HS2 := Lib.hid (HS.out.drewN k2)
      cases hb : decide (at_ l' j < at_ l' p) with
      | false =>
        have HE : Hid (IsH l' l.length) := Lib.hid (up_end HU.out (.inr (by
          rw [HPJ.out]
          have : ¬ at_ l' j < at_ l' p := by simpa using hb
          omega)))
        clear hb
        go_wp2_with fail
        go_end0
        exact ⟨rfl, l', HS2.out, HE.out⟩
      | true =>
        have HL : Hid (at_ l' j < at_ l' p) := Lib.hid (by simpa using hb)
        clear hb
        have ms := meth_val row_swap (w := wr.drewN k2) (v := .slice (some ⟨g, 0, none⟩) l.length c) hc
        go_wp2_with fail
        refine (swap_any g l.length c base l' p j _ _ (wr.drewN k2) HO.out (by omega) (at_get hpl) (at_get (by omega))).mono ?_
        rintro e w3 ⟨rfl, ho, hg, hz⟩
        have HS3 : Hid (Sifted w w3 fb base (.slice (some ⟨g, 0, none⟩) l.length c) l (swapL l' p j (at_ l' p) (at_ l' j))) := Lib.hid (HS2.out.swap hpl (by omega) (by rw [hll]; exact ho) hg hz)
        have HU3 : Hid (UpI (swapL l' p j (at_ l' p) (at_ l' j)) l.length p) := Lib.hid (by
          have := up_step HU.out hj (by omega) (by omega) (by rw [HPJ.out]; exact HL.out)
          rw [HPJ.out] at this; exact this)
        clear ho hg hz
        go_wp2_with fail
        exact ⟨⟨p, _, rfl, by omega, by rw [swapL_len]; exact hll, HS3, HU3⟩, by simp [intOf]; omega⟩
end Go.Proofs.Yteffpeokialeiaa
