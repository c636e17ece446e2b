/-
  Stacks whose box is changed; the walk of drop.
-/
import Derived.Test.YtpkpffnabcgcbaaFb
import Derived.Test.YtpkpffnabcgcbaaRegT
import Derived.Deep.Cut
namespace Go.Proofs.Ytpkpffnabcgcbaa
open Go.RowKit

/-- one block alone is changed -/
structure Upd (p : Nat) (w w' : World) : Prop where
  os : w'.os = w.os
  tape : w'.tape = w.tape
  output : w'.output = w.output
  size : w'.heap.size = w.heap.size
  block : ∀ g, g ≠ p → w'.heap[g]? = w.heap[g]?
theorem Upd.refl (p : Nat) (w : World) : Upd p w w := ⟨rfl, rfl, rfl, rfl, fun _ _ => rfl⟩
theorem Upd.drew (p : Nat) (w : World) : Upd p w w.drew := ⟨rfl, rfl, rfl, rfl, fun _ _ => rfl⟩
theorem Upd.trans {p : Nat} {w w1 w2 : World} (h : Upd p w w1) (k : Upd p w1 w2) : Upd p w w2 :=
  ⟨k.os.trans h.os, k.tape.trans h.tape, k.output.trans h.output, k.size.trans h.size, fun g hg => (k.block g hg).trans (h.block g hg)⟩
theorem Upd.set {p : Nat} {w w' : World} (h : Upd p w w') (o : Nat) (u : Value) : Upd p w (w'.setCell ⟨p, o, none⟩ u) := by
  have hb : Below 0 w' (w'.setCell ⟨p, o, none⟩ u) := (Below.refl _ _).setCell (Nat.zero_le _) _
  exact ⟨hb.os.trans h.os, hb.tape.trans h.tape, hb.output.trans h.output, (by simp : (w'.setCell ⟨p, o, none⟩ u).heap.size = w'.heap.size).trans h.size, fun g hg => (heap_setCell_other _ _ _ _ (by simpa using hg)).trans (h.block g hg)⟩
theorem Upd.below {p B : Nat} {x w w' : World} (h : Upd p w w') (hb : Below B x w) (hp : B ≤ p) : Below B x w' :=
  ⟨h.os.trans hb.os, h.tape.trans hb.tape, h.output.trans hb.output, by rw [h.size]; exact hb.size, fun g hg => (h.block g (by omega)).trans (hb.block g hg)⟩
section
variable {w w' : World} {B p : Nat} {s : St} {ve vc : Value} {ys : List Value} {cs : List (Value × Value)}
/-- a row of another type does not lie in the box -/
theorem own_ne {t n size g : Nat} {v : Value} {xs : List Value} {b : Array Value} (h : w.ownsRow B t size v n xs) (hk : Blk w p 25 b) (ht : t ≠ 25) (hg : v.ownBlock = some g) : g ≠ p := by
  rintro rfl
  obtain ⟨c, hc⟩ := own_ty h hg
  unfold Blk at hk
  rw [hc] at hk
  injection hk with hk
  injection hk with _ hk _
  exact ht hk
theorem blks_take (l : List Value) (n : Nat) : (blks (l.take n)).Sublist (blks l) := (List.take_sublist n l).filterMap _
theorem blks_app (l m : List Value) : blks (l ++ m) = blks l ++ blks m := List.filterMap_append
/-- the box is changed, and rows are cut short -/
theorem Stk.boxed (h : Stk w B p s ve vc ys cs) (hu : Upd p w w') {m k : Nat} {A : Option Addr} {c : Nat} {A' : Option Addr} {c' : Nat} {e : Int} (hve : ve = .slice A s.envs.length c) (hvc : vc = .slice A' s.chs.length c')
    (hm : m ≤ s.envs.length) (hk : k ≤ s.chs.length) (hb : Blk w' p 25 #[.slice A m c, .int .i64 e, .slice A' k c']) :
    Stk w' B p ⟨s.envs.take m, e, s.chs.take k⟩ (.slice A m c) (.slice A' k c') (ys.take m) (cs.take k) := by
  have ho : ∀ {t size n : Nat} {v : Value} {xs : List Value}, w.ownsRow B t size v n xs → t ≠ 25 → w'.ownsRow B t size v n xs := fun h1 ht => own_stay h1 fun g hg => hu.block g (own_ne h1 h.box ht hg)
  have h1 := h.envs
  have h2 := h.chs
  rw [hve] at h1
  rw [hvc] at h2
  have hml : (s.envs.take m).length = m := by rw [List.length_take]; omega
  have hkl : (s.chs.take k).length = k := by rw [List.length_take]; omega
  refine ⟨hb, h.low, ?_, ?_, ?_, ?_, fun i x v hx hv => ?_, fun i x v hx hv => ?_, ?_⟩
  · have h3 := own_cut (ho h1 (by decide)) hm
    rw [eCs_take _ _ _ h.ylen] at h3
    show w'.ownsRow B 54 4 _ (s.envs.take m).length _
    rw [hml]
    exact h3
  · have h3 := own_cut (ho h2 (by decide)) hk
    rw [hCs_take _ _ _ h.clen] at h3
    show w'.ownsRow B 29 11 _ (s.chs.take k).length _
    rw [hkl]
    exact h3
  · show (ys.take m).length = (s.envs.take m).length
    rw [List.length_take, List.length_take, h.ylen]
  · show (cs.take k).length = (s.chs.take k).length
    rw [List.length_take, List.length_take, h.clen]
  · have hx' : (s.envs.take m)[i]? = some x := hx
    rw [List.getElem?_take] at hx' hv
    split at hx'
    · rename_i hi
      rw [if_pos hi] at hv
      exact ho (h.yrow i x v hx' hv) (by decide)
    · cases hx'
  · have hx' : (s.chs.take k)[i]? = some x := hx
    rw [List.getElem?_take] at hx' hv
    split at hx'
    · rename_i hi
      rw [if_pos hi] at hv
      obtain ⟨r1, r2⟩ := h.crow i x v hx' hv
      exact ⟨ho r1 (by decide), ho r2 (by decide)⟩
    · cases hx'
  · refine h.nodup.sublist ?_
    rw [List.map_take, List.map_take]
    exact ((((List.take_sublist m ys).append (List.take_sublist k _)).append (List.take_sublist k _))).filterMap _
end
/-- the number of environments that drop keeps -/
def keepN (s : St) : Nat := (min (max (max s.e (protV s)) 0) s.envs.length).toNat

set_option maxHeartbeats 2000000 in
theorem drop_any {B p : Nat} {s : St} {vc : Value} {ys : List Value} {cs : List (Value × Value)} {A : Option Addr} {c : Nat} (w : World) (h : Stk w B p s (.slice A s.envs.length c) vc ys cs) (hn : s.envs.length ≤ 1000000000000) (hnc : s.chs.length ≤ 1000000000000) :
    Calls Try.prog 38 #[.pointer (some ⟨p, 0, none⟩)] w fun e w' => e = .returned (.tuple #[]) ∧ Upd p w w' ∧ Blk w' p 25 #[.slice A (keepN s) c, .int .i64 s.e, vc] := by
  have hp := h.box.lt
  obtain ⟨A1, c1, e1, hcap⟩ := own_form h.envs
  injection e1 with q1 _ q2
  subst q1 q2
  have H := Lib.hid h
  have HC := Lib.hid hcap
  have HK := Lib.hid h.box
  clear h hcap
  obtain ⟨m, hm⟩ : ∃ m, keepN s = m := ⟨_, rfl⟩
  have hmI : (m : Int) = min (max (max s.e (protV s)) 0) s.envs.length := by rw [← hm]; unfold keepN; omega
  rw [hm]
  have HM := Lib.hid hmI
  clear hm hmI
  go_enter Try.func38, Try.ntmps38
  go_upto_region 0 with fail
  obtain ⟨X0, HX⟩ : ∃ X, Hid (X = w.drew) := ⟨_, rfl⟩
  have hU0 : Upd p w X0 := by rw [HX.out]; exact Upd.drew p w
  have H0 := Lib.hid (show Stk X0 B p s (.slice A s.envs.length c) vc ys cs by rw [HX.out]; exact H.out.next (bDrew w))
  have hk0 : Blk X0 p 25 #[.slice A s.envs.length c, .int .i64 s.e, vc] := H0.out.box
  refine wp_region_N (fun w' => Blk w' p 25 #[.slice A s.envs.length c, .int .i64 s.e, vc] ∧ w' = X0) (fun j => decide (j < 15)) (by kernel_rfl) ?_
  rw [← HX.out]
  clear HX
  have hS0 : (fun w' => Blk w' p 25 #[.slice A s.envs.length c, .int .i64 s.e, vc] ∧ w' = X0) X0 := ⟨hk0, rfl⟩
  refine wpAnyN_take (i := 0) (v := ?v1) rfl (by kernel_rfl) (by kernel_rfl) (by kernel_rfl) (by kernel_rfl) (fun _ _ _ h => h) (Or.inl ⟨by rfl, ?hy1⟩) (by assumption) ?_
  case hy1 => intro w hSw; obtain ⟨hbq, rfl⟩ := hSw; have e0 := hbq.cell 0; have e1 := hbq.cell 1; have e2 := hbq.cell 2; have el := hbq.lt; simp at e0 e1 e2; go_simp; try with_reducible rfl
  simp only [Act.put, List.getElem_toArray, List.getElem_cons_zero, List.setIfInBounds_toArray, List.set_cons_zero, List.set_cons_succ]
  refine wpAnyN_take (i := 1) (v := ?v2) rfl (by kernel_rfl) (by kernel_rfl) (by kernel_rfl) (by kernel_rfl) (fun _ _ _ h => h) (Or.inl ⟨by rfl, ?hy2⟩) (by assumption) ?_
  case hy2 => intro w hSw; obtain ⟨hbq, rfl⟩ := hSw; have e0 := hbq.cell 0; have e1 := hbq.cell 1; have e2 := hbq.cell 2; have el := hbq.lt; simp at e0 e1 e2; go_simp; try with_reducible rfl
  simp only [Act.put, List.getElem_toArray, List.getElem_cons_zero, List.getElem_cons_succ, List.setIfInBounds_toArray, List.set_cons_zero, List.set_cons_succ]
  refine wpAnyN_take (i := 2) (v := ?v3) rfl (by kernel_rfl) (by kernel_rfl) (by kernel_rfl) (by kernel_rfl) (fun _ _ _ h => h) (Or.inl ⟨by rfl, ?hy3⟩) (by assumption) ?_
  case hy3 => intro w hSw; obtain ⟨hbq, rfl⟩ := hSw; have e0 := hbq.cell 0; have e1 := hbq.cell 1; have e2 := hbq.cell 2; have el := hbq.lt; simp at e0 e1 e2; go_simp; try with_reducible rfl
  simp only [Act.put, List.getElem_toArray, List.getElem_cons_zero, List.getElem_cons_succ, List.setIfInBounds_toArray, List.set_cons_zero, List.set_cons_succ]
  refine wpAnyN_take (i := 3) (v := ?v4) rfl (by kernel_rfl) (by kernel_rfl) (by kernel_rfl) (by kernel_rfl) (fun _ _ _ h => h) (Or.inl ⟨by rfl, ?hy4⟩) (by assumption) ?_
  case hy4 => intro w hSw; obtain ⟨hbq, rfl⟩ := hSw; have e0 := hbq.cell 0; have e1 := hbq.cell 1; have e2 := hbq.cell 2; have el := hbq.lt; simp at e0 e1 e2; go_simp; try with_reducible rfl
  simp only [Act.put, List.getElem_toArray, List.getElem_cons_zero, List.getElem_cons_succ, List.setIfInBounds_toArray, List.set_cons_zero, List.set_cons_succ]
  refine wpAnyN_take (i := 4) (v := ?v5) rfl (by kernel_rfl) (by kernel_rfl) (by kernel_rfl) (by kernel_rfl) (fun _ _ _ h => h) (Or.inl ⟨by rfl, ?hy5⟩) (by assumption) ?_
  case hy5 => intro w hSw; obtain ⟨hbq, rfl⟩ := hSw; have e0 := hbq.cell 0; have e1 := hbq.cell 1; have e2 := hbq.cell 2; have el := hbq.lt; simp at e0 e1 e2; go_simp; try with_reducible rfl
  simp only [Act.put, List.getElem_toArray, List.getElem_cons_zero, List.getElem_cons_succ, List.setIfInBounds_toArray, List.set_cons_zero, List.set_cons_succ]
  refine wpAnyN_take (i := 5) (v := ?v6) rfl (by kernel_rfl) (by kernel_rfl) (by kernel_rfl) (by kernel_rfl) (fun _ _ _ h => h) (Or.inl ⟨by rfl, ?hy6⟩) (by assumption) ?_
  case hy6 => intro w hSw; obtain ⟨hbq, rfl⟩ := hSw; have e0 := hbq.cell 0; have e1 := hbq.cell 1; have e2 := hbq.cell 2; have el := hbq.lt; simp at e0 e1 e2; go_simp; try with_reducible rfl
  simp only [Act.put, List.getElem_toArray, List.getElem_cons_zero, List.getElem_cons_succ, List.setIfInBounds_toArray, List.set_cons_zero, List.set_cons_succ]
  refine wpAnyN_take (i := 6) (v := ?v7) rfl (by kernel_rfl) (by kernel_rfl) (by kernel_rfl) (by kernel_rfl) (fun _ _ _ h => h) (Or.inl ⟨by rfl, ?hy7⟩) (by assumption) ?_
  case hy7 => intro w hSw; obtain ⟨hbq, rfl⟩ := hSw; have e0 := hbq.cell 0; have e1 := hbq.cell 1; have e2 := hbq.cell 2; have el := hbq.lt; simp at e0 e1 e2; go_simp; try with_reducible rfl
  simp only [Act.put, List.getElem_toArray, List.getElem_cons_zero, List.getElem_cons_succ, List.setIfInBounds_toArray, List.set_cons_zero, List.set_cons_succ]
  refine wpAnyN_take (i := 7) (v := ?v8) rfl (by kernel_rfl) (by kernel_rfl) (by kernel_rfl) (by kernel_rfl) (fun _ _ _ h => h) (Or.inl ⟨by rfl, ?hy8⟩) (by assumption) ?_
  case hy8 => intro w hSw; obtain ⟨hbq, rfl⟩ := hSw; have e0 := hbq.cell 0; have e1 := hbq.cell 1; have e2 := hbq.cell 2; have el := hbq.lt; simp at e0 e1 e2; go_simp; try with_reducible rfl
  simp only [Act.put, List.getElem_toArray, List.getElem_cons_zero, List.getElem_cons_succ, List.setIfInBounds_toArray, List.set_cons_zero, List.set_cons_succ]
  refine wpAnyN_take (i := 8) (v := ?v9) rfl (by kernel_rfl) (by kernel_rfl) (by kernel_rfl) (by kernel_rfl) (fun _ _ _ h => h) (Or.inl ⟨by rfl, ?hy9⟩) (by assumption) ?_
  case hy9 => intro w hSw; obtain ⟨hbq, rfl⟩ := hSw; have e0 := hbq.cell 0; have e1 := hbq.cell 1; have e2 := hbq.cell 2; have el := hbq.lt; simp at e0 e1 e2; go_simp; try with_reducible rfl
  simp only [Act.put, List.getElem_toArray, List.getElem_cons_zero, List.getElem_cons_succ, List.setIfInBounds_toArray, List.set_cons_zero, List.set_cons_succ]
  refine wpAnyN_take (i := 9) (v := ?v10) rfl (by kernel_rfl) (by kernel_rfl) (by kernel_rfl) (by kernel_rfl) (fun _ _ _ h => h) (Or.inl ⟨by rfl, ?hy10⟩) (by assumption) ?_
  case hy10 => intro w hSw; obtain ⟨hbq, rfl⟩ := hSw; have e0 := hbq.cell 0; have e1 := hbq.cell 1; have e2 := hbq.cell 2; have el := hbq.lt; simp at e0 e1 e2; go_simp; try with_reducible rfl
  simp only [Act.put, List.getElem_toArray, List.getElem_cons_zero, List.getElem_cons_succ, List.setIfInBounds_toArray, List.set_cons_zero, List.set_cons_succ]
  refine wpAnyN_one (i := 10) (by kernel_rfl) rfl (fun K hK => ?_)
  simp only [List.getElem_toArray, List.getElem_cons_zero, List.getElem_cons_succ]
  go_simp
  refine (protected_any X0 H0.out hnc).mono ?_
  rintro e w1 ⟨rfl, rfl⟩
  refine hK _ _ (fun _ => hS0) ?_
  (try simp only [Act.put, List.setIfInBounds_toArray, List.set_cons_zero, List.set_cons_succ])
  refine wpAnyN_one (i := 11) (by kernel_rfl) rfl (fun K hK => ?_)
  simp only [List.getElem_toArray, List.getElem_cons_zero, List.getElem_cons_succ]
  go_simp
  obtain ⟨mx, hmx⟩ : ∃ mx, Hid (mx = max s.e (protV s)) := ⟨_, rfl⟩
  rw [show (if s.e < protV s then protV s else s.e) = mx by rw [hmx.out]; split <;> omega]
  refine hK _ _ (fun _ => hS0) ?_
  (try simp only [Act.put, List.setIfInBounds_toArray, List.set_cons_zero, List.set_cons_succ])
  refine wpAnyN_one (i := 12) (by kernel_rfl) rfl (fun K hK => ?_)
  simp only [List.getElem_toArray, List.getElem_cons_zero, List.getElem_cons_succ]
  go_simp
  refine (cut_env (A := A) (n := s.envs.length) (c := c) (k := mx) (m := m) w1 HC.out hn (by rw [hmx.out]; exact HM.out)).mono ?_
  rintro e w2 ⟨rfl, rfl⟩
  refine hK _ _ (fun _ => hS0) ?_
  (try simp only [Act.put, List.setIfInBounds_toArray, List.set_cons_zero, List.set_cons_succ])
  refine wpAnyN_one (i := 13) (by kernel_rfl) rfl (fun K hK => ?_)
  simp only [List.getElem_toArray, List.getElem_cons_zero, List.getElem_cons_succ]
  go_simp
  refine hK _ _ (fun _ => hS0) ?_
  (try simp only [Act.put, List.setIfInBounds_toArray, List.set_cons_zero, List.set_cons_succ])
  refine wpAnyN_one (i := 14) (by kernel_rfl) rfl (fun K hK => ?_)
  simp only [List.getElem_toArray, List.getElem_cons_zero, List.getElem_cons_succ]
  go_simp
  refine hK _ _ (fun _ => hS0) ?_
  (try simp only [Act.put, List.setIfInBounds_toArray, List.set_cons_zero, List.set_cons_succ])
  have f0 := hk0.frozen 0
  have g0 := hk0.cell 0
  have gl := hk0.lt
  simp at g0
  refine wpAnyN_one (i := 15) (by kernel_rfl) rfl (fun K hK => ?_)
  simp only [List.getElem_toArray, List.getElem_cons_zero, List.getElem_cons_succ]
  go_simp
  refine hK _ _ (fun h => absurd h (by decide)) ?_
  refine wpAnyN_done (by kernel_rfl) ?_ _
  go_wp2_with fail
  go_end0
  refine ⟨rfl, hU0.trans ((Upd.refl p _).set 0 _), ?_⟩
  have h := hk0.set_ 0 (.slice A m c)
  simpa using h
end Go.Proofs.Ytpkpffnabcgcbaa
