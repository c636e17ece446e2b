/-
  Walks: the heap's Pop.
-/
import Derived.Test.YteffpeokialeiaaAz
namespace Go.Proofs.Yteffpeokialeiaa
open Go.RowKit

def RetPop (w : World) (fb base : Nat) (v : Value) (P : Int → List Int → Prop) (e : Ending) (w' : World) : Prop :=
  ∃ m v' l', e = .returned (.iface 3 (.int .i64 m)) ∧ Hp w' fb base v' l' ∧ P m l' ∧ Touch w w' fb v v'
set_option maxRecDepth 100000 in
set_option maxHeartbeats 1000000 in
theorem mpop_any (fb base : Nat) (v : Value) (l : List Int) (x : Int) (w : World) (h : Hp w fb base v (l ++ [x])) (hn : l.length ≤ 1000000) :
    Calls Try.prog 81 #[.pointer (some ⟨fb, 0, none⟩)] w (RetPop w fb base v (fun m l' => m = x ∧ l' = l)) := by
  obtain ⟨A, c, rfl⟩ := h.form
  obtain ⟨g, rfl⟩ := own_some h.2 (by simp)
  have H := Lib.hid h
  have hc : w.cell? ⟨fb, 0, none⟩ = some (.slice (some ⟨g, 0, none⟩) (l ++ [x]).length c) := h.1.cell 0
  rw [show (l ++ [x]).length = l.length + 1 by simp] at hc
  have hf := h.1.frozen 0
  obtain ⟨cx, _⟩ := own_cell h.2 (i := l.length) (x := x) (by simp)
  have hcap : l.length + 1 ≤ c := by
    obtain ⟨A', c', e, hcap⟩ := own_form h.2
    injection e with _ _ e3
    subst e3
    have := hcap.1; simp at this; omega
  clear h
  go_enter Try.func81, Try.ntmps81
  go_wp2_with fail
  go_quiet (fail)
  rename_i nq
  go_wp2_with fail
  go_region
  go_wp2_with fail
  go_ret
  have hb' : Blk (w.drewN (nq + 1)) fb 62 #[.slice (some ⟨g, 0, none⟩) (l ++ [x]).length c] := H.out.1
  refine ⟨x, .slice (some ⟨g, 0, none⟩) l.length c, l, rfl, ⟨hb'.set_ 0 _, ?_⟩, ⟨rfl, rfl⟩, ⟨rfl, rfl, rfl, by simp, fun k _ hk _ => heap_setCell_other _ _ _ _ hk, .inl rfl⟩⟩
  have ho := own_cut H.out.2 (m := l.length) (by simp)
  rw [show (iCs (l ++ [x])).take (l.length * 1) = iCs l by unfold iCs; rw [Nat.mul_one, ← List.map_take, List.take_left']; rfl] at ho
  refine own_stay (w := w) ho fun k hk => heap_setCell_other _ _ _ _ ?_
  injection hk with hk
  subst hk
  exact fun e => H.out.ne (by rw [show g = fb from e]; rfl)
theorem split_last {l : List Int} {n : Nat} (h : l.length = n + 1) : l = l.take n ++ [at_ l n] := by
  have h1 : at_ l n = l[n] := by simp [at_, h]
  rw [h1, ← List.take_succ_eq_append_getElem (by omega), List.take_of_length_le (by omega)]
theorem isH_take {l : List Int} {n : Nat} (h : IsH l n) (hn : n ≤ l.length) : IsH (l.take n) (l.take n).length := by
  have ha : ∀ k, k < n → at_ (l.take n) k = at_ l k := fun k hk => by simp [at_, hk]
  intro k k0 hk
  rw [List.length_take, Nat.min_eq_left hn] at hk
  rw [ha _ (by omega), ha _ hk]
  exact h k k0 hk
set_option maxRecDepth 100000 in
set_option maxHeartbeats 1000000 in
theorem pop_any (fb base : Nat) (v : Value) (l : List Int) (w : World) (h : Hp w fb base v l) (hH : IsH l l.length) (hn : l.length ≤ 1000000) (hl : 0 < l.length) :
    Calls Try.prog 43 #[.iface 61 (.pointer (some ⟨fb, 0, none⟩))] w (RetPop w fb base v (fun m l' => (m :: l').Perm l ∧ IsH l' l'.length ∧ ∀ y ∈ l, m ≤ y)) := by
  obtain ⟨n, hln⟩ : ∃ n, l.length = n + 1 := ⟨l.length - 1, by omega⟩
  obtain ⟨A, c, rfl⟩ := h.form
  obtain ⟨g, rfl⟩ := own_some h.2 hl
  have H := Lib.hid h
  have HH := Lib.hid hH
  have HLN := Lib.hid hln
  have hc : w.cell? ⟨fb, 0, none⟩ = some (.slice (some ⟨g, 0, none⟩) (n + 1) c) := by rw [← hln]; exact h.1.cell 0
  have hnn : n + 1 ≤ 1000000 := by omega
  have hnl : n < l.length := by omega
  have hnl2 : n + 1 ≤ l.length := by omega
  have ml := meth_val row_len hc
  have ms := meth_val row_swap hc
  have HO := Lib.hid h.2
  rw [hln] at HO
  clear h hH hln
  go_enter Try.func43, Try.ntmps43
  go_wp2_with fail
  refine (len_any _ _ _ _).mono ?_
  rintro e w' ⟨rfl, rfl⟩
  go_wp2_with fail
  have hsw : Calls Try.prog 83 #[.slice (some ⟨g, 0, none⟩) (n + 1) c, .int .i64 0, .int .i64 n] w _ := swap_any g (n + 1) c base l 0 n _ _ w HO.out (by omega) (at_get hl) (at_get hnl)
  refine hsw.mono ?_
  rintro e w2 ⟨rfl, ho, hg, hz⟩
  clear hsw
  have HS2 : Hid (Sifted w w2 fb base (.slice (some ⟨g, 0, none⟩) l.length c) l (swapL l 0 n (at_ l 0) (at_ l n))) := Lib.hid (by
    have h0 : Sifted w w fb base (.slice (some ⟨g, 0, none⟩) l.length c) l l := ⟨H.out, List.Perm.refl _, Touch.refl _ _ _, rfl⟩
    exact h0.swap hl hnl (by rw [HLN.out]; exact ho) hg hz)
  have HD : Hid (DnI (swapL l 0 n (at_ l 0) (at_ l n)) n 0) := Lib.hid (heap_first (by have := HH.out; rw [HLN.out] at this; exact this) (by omega))
  clear ho hg hz ml ms hc
  go_wp2_with fail
  refine (down_any fb base _ (swapL l 0 n (at_ l 0) (at_ l n)) n w2 HS2.out.1 (by rw [swapL_len]; omega) (by rw [swapL_len]; omega) (by rw [swapL_len]; omega) HD.out).mono ?_
  rintro e w3 ⟨b3, l3, rfl, hs3, hh3, hf3⟩
  have hl3 : l3.length = n + 1 := by rw [hs3.2.1.length_eq, swapL_len, HLN.out]
  have hm : at_ l3 n = at_ l 0 := by rw [hf3 n (Nat.le_refl _), at_swap hl hnl, if_pos rfl]
  have HP3 : Hid (Hp w3 fb base (.slice (some ⟨g, 0, none⟩) l.length c) (l3.take n ++ [at_ l 0])) := Lib.hid (by rw [← hm, ← split_last hl3]; exact hs3.1)
  have HR : Hid (((at_ l 0) :: l3.take n).Perm l ∧ IsH (l3.take n) (l3.take n).length) := Lib.hid ⟨by
    have h1 : (l3.take n ++ [at_ l 0]).Perm l := by rw [← hm, ← split_last hl3]; exact hs3.2.1.trans HS2.out.2.1
    exact List.perm_append_comm.trans h1, isH_take hh3 (by omega)⟩
  have HT := Lib.hid (HS2.out.2.2.1.trans hs3.2.2.1)
  have hl4 : (l3.take n).length ≤ 1000000 := by simp; omega
  have mp := meth_pop fb w3
  clear hs3 hh3 hf3 hl3 hm
  go_wp2_with fail
  refine (mpop_any fb base _ (l3.take n) (at_ l 0) w3 HP3.out hl4).mono ?_
  rintro e w4 ⟨m, v4, l4, rfl, hp4, ⟨rfl, rfl⟩, ht4⟩
  have HP4 := Lib.hid hp4
  have HT4 := Lib.hid (HT.out.trans ht4)
  clear hp4 ht4
  go_wp2_with fail
  go_ret
  exact ⟨_, _, _, rfl, HP4.out, ⟨HR.out.1, HR.out.2, fun y hy => by
    obtain ⟨k, hk⟩ := List.mem_iff_getElem?.1 hy
    have hlt := (List.getElem?_eq_some_iff.1 hk).1
    have h1 := heap_min HH.out k hlt
    rw [at_get hlt] at hk
    injection hk with hk
    rw [← hk]; exact h1⟩, HT4.out⟩
end Go.Proofs.Yteffpeokialeiaa
