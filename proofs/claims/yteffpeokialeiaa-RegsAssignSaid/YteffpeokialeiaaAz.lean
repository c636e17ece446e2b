/-
  Walks: the heap's Push and Pop.
-/
import Derived.Test.YteffpeokialeiaaAy
namespace Go.Proofs.Yteffpeokialeiaa
open Go.RowKit

/-- a row cut short -/
theorem own_cut {w : World} {base n e size : Nat} {xs : List Value} {A : Option Addr} {c : Nat} (h : w.ownsRow base e size (.slice A n c) n xs) {m : Nat} (hm : m ≤ n) : w.ownsRow base e size (.slice A m c) m (xs.take (m * size)) := by
  have hle : m * size ≤ n * size := Nat.mul_le_mul_right _ hm
  refine ⟨by rw [List.length_take, h.1]; omega, ?_⟩
  rcases h.2 with ⟨h1, h0⟩ | ⟨g, cap, cur, hv, hg, hh, hc, hcm, hcs, ht⟩
  · injection h1 with h1 h2 h3
    subst h1 h3
    exact .inl ⟨by rw [show m = 0 by omega], by omega⟩
  · injection hv with h1 h2 h3
    subst h1 h3
    refine .inr ⟨g, c, cur, rfl, hg, hh, by omega, hcm, hcs, ?_⟩
    rw [← ht, List.take_take]
    congr 1
    omega
theorem run_assert (x : Int) (w : World) : (Instr.typeAssert (.iface 3 (.int .i64 x)) 20 3 true).run Try.prog w = .ok (.tuple #[.int .i64 x, .bool true]) w := by kernel_rfl
/-- what a call leaves in the heap's variable -/
def RetHp (w : World) (fb base : Nat) (v : Value) (P : List Int → Prop) (e : Ending) (w' : World) : Prop :=
  e = .returned (.tuple #[]) ∧ ∃ v' l', Hp w' fb base v' l' ∧ P l' ∧ Touch w w' fb v v'
set_option maxRecDepth 100000 in
set_option maxHeartbeats 1000000 in
theorem mpush_any (fb base : Nat) (v : Value) (l : List Int) (x : Int) (w : World) (h : Hp w fb base v l) (hn : l.length ≤ 1000000) (hbs : base ≤ w.heap.size) :
    Calls Try.prog 82 #[.pointer (some ⟨fb, 0, none⟩), .iface 3 (.int .i64 x)] w (RetHp w fb base v (fun l' => l' = l ++ [x])) := by
  obtain ⟨i3, hi, hz0, hz1, hz2⟩ := info_parts info3
  have HI := Lib.hid hz1
  obtain ⟨A, c, rfl⟩ := h.form
  have H := Lib.hid h
  have hc : w.cell? ⟨fb, 0, none⟩ = some (.slice A l.length c) := h.1.cell 0
  have ta := run_assert x w
  clear hz1 h
  go_enter Try.func82, Try.ntmps82
  go_wp2_with (at_builtin; refine wpList_append_own_at _ rfl (.tmp 15) (.tmp 17) 62 rfl base 3 i3 (.int .i64 0) 1 8 Try.underlying62 hi hz0 HI.out hz2 rfl (by decide) _ _ _ rfl (H.out.2.alloc _) ⟨w.heap.size, 0, none⟩ 1 1 [.int .i64 x] rfl rfl ?c1 ?c2 ?c3 ?c4 ?c5 ?_)
  case c1 => exact cell_one_new _ _ _
  case c2 => simp [Value.oneCell']
  case c3 => unfold maxLen; omega
  case c4 => omega
  case c5 => simp; omega
  intro v' w3 hown hg _ hat
  have hb3 : Blk w3 fb 62 #[.slice A l.length c] := (H.out.1.alloc _).grown hg H.out.ne
  have HT : Hid (Touch w w3 fb (.slice A l.length c) v') := Lib.hid ⟨hg.os, hg.tape, hg.output, by have := hg.size; simp at this; omega, fun k hk _ hv => by
    rw [hg.block k (by simp; omega) (fun e => hv e.symm), heap_alloc_old _ _ hk], by
      rcases hat with h1 | h1
      · exact .inl h1
      · exact .inr ⟨_, h1, by simp⟩⟩
  have HB3 := Lib.hid hb3
  have HO := Lib.hid hown
  have q0 := hb3.cell 0
  have q1 := hb3.frozen 0
  have hne : v'.ownBlock ≠ some fb := fun e => by
    obtain ⟨cs, h2⟩ := own_ty hown e
    unfold Blk at hb3
    rw [hb3] at h2; injection h2 with h2; injection h2 with _ h3 _; exact absurd h3 (by decide)
  obtain ⟨A3, c3, rfl, _⟩ := own_form hown
  have HNE := Lib.hid hne
  clear hb3 hown hg hat hne
  go_wp2_with fail
  go_end0
  refine ⟨rfl, _, l ++ [x], ⟨HB3.out.set_ 0 _, ?_⟩, rfl, HT.out.trans ⟨rfl, rfl, rfl, by simp, fun k hk hf _ => heap_setCell_other _ _ _ _ hf, .inl rfl⟩⟩
  rw [List.length_append, show iCs (l ++ [x]) = iCs l ++ [.int .i64 x] by simp [iCs]]
  exact own_stay HO.out fun g e => heap_setCell_other _ _ _ _ (by intro e2; exact HNE.out (by rw [e, e2]))
set_option maxRecDepth 100000 in
set_option maxHeartbeats 1000000 in
theorem push_any (fb base : Nat) (v : Value) (l : List Int) (x : Int) (w : World) (h : Hp w fb base v l) (hH : IsH l l.length) (hn : l.length < 1000000) (hbs : base ≤ w.heap.size) :
    Calls Try.prog 40 #[.iface 61 (.pointer (some ⟨fb, 0, none⟩)), .iface 3 (.int .i64 x)] w (RetHp w fb base v (fun l' => l'.Perm (x :: l) ∧ IsH l' l'.length)) := by
  have HH := Lib.hid (heap_snoc hH x)
  have mp := meth_push fb w
  clear hH
  go_enter Try.func40, Try.ntmps40
  go_wp2_with fail
  refine (mpush_any fb base v l x w h (by omega) hbs).mono ?_
  rintro e w1 ⟨rfl, v1, l1, hp, rfl, ht⟩
  obtain ⟨A1, c1, rfl⟩ := hp.form
  have HP := Lib.hid hp
  have HT := Lib.hid ht
  have hc1 : w1.cell? ⟨fb, 0, none⟩ = some (.slice A1 (l ++ [x]).length c1) := hp.1.cell 0
  rw [show (l ++ [x]).length = l.length + 1 by simp] at hc1
  have ml := meth_val row_len hc1
  clear hp ht mp h
  go_wp2_with fail
  refine (len_any _ _ _ _).mono ?_
  rintro e w' ⟨rfl, rfl⟩
  go_wp2_with fail
  refine (up_any fb base (.slice A1 (l ++ [x]).length c1) (l ++ [x]) l.length w1 HP.out (by simp; omega) (by simp) (by simpa using HH.out)).mono ?_
  rintro e w2 ⟨rfl, l2, hs, hh⟩
  have HS := Lib.hid hs
  have HI := Lib.hid hh
  clear hs hh
  go_wp2_with fail
  go_end0
  have hl := HS.out.2.1.length_eq
  exact ⟨rfl, _, l2, HS.out.1, ⟨HS.out.2.1.trans (List.perm_append_comm.trans (by simp)), by rw [hl]; exact HI.out⟩, HT.out.trans HS.out.2.2.1⟩
end Go.Proofs.Yteffpeokialeiaa
