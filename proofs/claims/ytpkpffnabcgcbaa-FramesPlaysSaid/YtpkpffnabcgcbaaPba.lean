/-
  The reference's Height and drop. The reference's Cut. The reference's Free. The reference's Get. The reference's Trim.
-/
import Derived.Test.YtpkpffnabcgcbaaVg
import Derived.Test.YtpkpffnabcgcbaaVh
namespace Go.Proofs.Ytpkpffnabcgcbaa
section
open Go.RowKit

set_option maxHeartbeats 1000000 in
theorem Height_any {B p : Nat} {s : St} {ve vc : Value} {ys : List Value} {cs : List (Value × Value)} (w : World) (h : Stk w B p s ve vc ys cs) (hn : s.chs.length ≤ 1000000000000) :
    Calls Try.prog 54 #[.agg #[ve, .int .i64 s.e, vc]] w fun e w' => e = .returned (.int .i64 (protV s)) ∧ Below w.heap.size w w' := by
  have hbW := bAlloc w (.cells #[ve, .int .i64 s.e, vc] 25)
  have hkW := Blk.new w 25 #[ve, .int .i64 s.e, vc]
  have hs := h.rebox hbW hkW (Nat.le_of_lt (Nat.lt_of_le_of_lt h.low h.box.lt))
  obtain ⟨W, HW⟩ : ∃ W, Hid (W = w.alloc (.cells #[ve, .int .i64 s.e, vc] 25)) := ⟨_, rfl⟩
  rw [← HW.out] at hbW hs
  obtain ⟨c0, c1, c2⟩ := hs.cells
  have hl := hs.box.lt
  have HB := Lib.hid hbW
  clear hbW hkW
  cases hc : s.chs.length with
  | zero =>
    have hnil : s.chs = [] := List.eq_nil_of_length_eq_zero hc
    obtain ⟨A, c, e, -⟩ := own_form h.chs
    rw [hc] at e
    subst e
    rw [protV_nil hnil]
    clear h hs
    go_enter Try.func54, Try.ntmps54
    go_upto_region 1 with fail
    rw [← HW.out]
    clear HW
    go_wp2_with fail
    go_ret
    exact ⟨rfl, HB.out⟩
  | succ n =>
    obtain ⟨x, hx⟩ : ∃ x, s.chs[n]? = some x := ⟨_, List.getElem?_eq_getElem (by omega)⟩
    obtain ⟨g, cap, v, e, hcap, hv, k0, k1, k2, k3, k4, k5, k6, k7, k8, k9, k10⟩ := hs.chAt hx
    rw [hc] at e hcap
    subst e
    rw [protV_at hc hx]
    clear h hs hx hv k0 k1 k2 k3 k4 k5 k6 k7 k9 k10
    go_enter Try.func54, Try.ntmps54
    go_upto_region 1 with fail
    rw [← HW.out]
    clear HW
    go_wp2_with fail
    go_ret
    exact ⟨rfl, HB.out⟩

set_option maxHeartbeats 2000000 in
theorem Drop_any {B p : Nat} {s : St} {vc : Value} {ys : List Value} {cs : List (Value × Value)} {A : Option Addr} {c : Nat} (w : World) (h : Stk w B p s (.slice A s.envs.length c) vc ys cs) (hn : s.envs.length ≤ 1000000000000) (hnc : s.chs.length ≤ 1000000000000)
    (h0 : 0 ≤ max s.e (protV s)) (hle : max s.e (protV s) ≤ s.envs.length) :
    Calls Try.prog 55 #[.pointer (some ⟨p, 0, none⟩)] w fun e w' => e = .returned (.tuple #[]) ∧ Blk w' p 25 #[.slice A (keepN s) c, .int .i64 s.e, vc] ∧ ∃ w1, Below w.heap.size w w1 ∧ Upd p w1 w' := by
  have hp := h.box.lt
  obtain ⟨A1, c1, e1, hcap⟩ := own_form h.envs
  injection e1 with q1 _ q2
  subst q1 q2
  have H := Lib.hid h
  have hcap1 := hcap.1
  have HC := Lib.hid hcap
  clear h hcap
  obtain ⟨m, hm⟩ : ∃ m, keepN s = m := ⟨_, rfl⟩
  have hmI : (m : Int) = max s.e (protV s) := by rw [← hm]; unfold keepN; omega
  have hmc : m ≤ c := by omega
  have hml : m ≤ s.envs.length := by omega
  rw [hm]
  have HM := Lib.hid hmI
  clear hm hmI h0 hle
  go_enter Try.func55, Try.ntmps55
  go_upto_region 0 with fail
  obtain ⟨X0, HX⟩ : ∃ X, Hid (X = w.drew) := ⟨_, rfl⟩
  have hd0 : Below w.heap.size w X0 := by rw [HX.out]; exact bDrew w
  have H0 := Lib.hid (H.out.next hd0)
  have hk0 : Blk X0 p 25 #[.slice A s.envs.length c, .int .i64 s.e, vc] := H0.out.box
  refine wp_region_N (fun w' => Blk w' p 25 #[.slice A s.envs.length c, .int .i64 s.e, vc]) (fun j => decide (j < 17)) (by kernel_rfl) ?_
  rw [← HX.out]
  clear HX
  have hS0 : (fun w' => Blk w' p 25 #[.slice A s.envs.length c, .int .i64 s.e, vc]) X0 := hk0
  refine wpAnyN_take (i := 0) (v := ?v1) rfl (by kernel_rfl) (by kernel_rfl) (by kernel_rfl) (by kernel_rfl) (fun _ _ _ h => h) (Or.inl ⟨by rfl, ?hy1⟩) (by assumption) ?_
  case hy1 => intro w hSw; have e0 := hSw.cell 0; have e1 := hSw.cell 1; have e2 := hSw.cell 2; have el := hSw.lt; simp at e0 e1 e2; go_simp; try with_reducible rfl
  simp only [Act.put, List.getElem_toArray, List.getElem_cons_zero, List.setIfInBounds_toArray, List.set_cons_zero, List.set_cons_succ]
  refine wpAnyN_take (i := 1) (v := ?v2) rfl (by kernel_rfl) (by kernel_rfl) (by kernel_rfl) (by kernel_rfl) (fun _ _ _ h => h) (Or.inl ⟨by rfl, ?hy2⟩) (by assumption) ?_
  case hy2 => intro w hSw; have e0 := hSw.cell 0; have e1 := hSw.cell 1; have e2 := hSw.cell 2; have el := hSw.lt; simp at e0 e1 e2; go_simp; try with_reducible rfl
  simp only [Act.put, List.getElem_toArray, List.getElem_cons_zero, List.getElem_cons_succ, List.setIfInBounds_toArray, List.set_cons_zero, List.set_cons_succ]
  refine wpAnyN_take (i := 2) (v := ?v3) rfl (by kernel_rfl) (by kernel_rfl) (by kernel_rfl) (by kernel_rfl) (fun _ _ _ h => h) (Or.inl ⟨by rfl, ?hy3⟩) (by assumption) ?_
  case hy3 => intro w hSw; have e0 := hSw.cell 0; have e1 := hSw.cell 1; have e2 := hSw.cell 2; have el := hSw.lt; simp at e0 e1 e2; go_simp; try with_reducible rfl
  simp only [Act.put, List.getElem_toArray, List.getElem_cons_zero, List.getElem_cons_succ, List.setIfInBounds_toArray, List.set_cons_zero, List.set_cons_succ]
  refine wpAnyN_take (i := 3) (v := ?v4) rfl (by kernel_rfl) (by kernel_rfl) (by kernel_rfl) (by kernel_rfl) (fun _ _ _ h => h) (Or.inl ⟨by rfl, ?hy4⟩) (by assumption) ?_
  case hy4 => intro w hSw; have e0 := hSw.cell 0; have e1 := hSw.cell 1; have e2 := hSw.cell 2; have el := hSw.lt; simp at e0 e1 e2; go_simp; try with_reducible rfl
  simp only [Act.put, List.getElem_toArray, List.getElem_cons_zero, List.getElem_cons_succ, List.setIfInBounds_toArray, List.set_cons_zero, List.set_cons_succ]
  refine wpAnyN_take (i := 4) (v := ?v5) rfl (by kernel_rfl) (by kernel_rfl) (by kernel_rfl) (by kernel_rfl) (fun _ _ _ h => h) (Or.inl ⟨by rfl, ?hy5⟩) (by assumption) ?_
  case hy5 => intro w hSw; have e0 := hSw.cell 0; have e1 := hSw.cell 1; have e2 := hSw.cell 2; have el := hSw.lt; simp at e0 e1 e2; go_simp; try with_reducible rfl
  simp only [Act.put, List.getElem_toArray, List.getElem_cons_zero, List.getElem_cons_succ, List.setIfInBounds_toArray, List.set_cons_zero, List.set_cons_succ]
  refine wpAnyN_take (i := 5) (v := ?v6) rfl (by kernel_rfl) (by kernel_rfl) (by kernel_rfl) (by kernel_rfl) (fun _ _ _ h => h) (Or.inl ⟨by rfl, ?hy6⟩) (by assumption) ?_
  case hy6 => intro w hSw; have e0 := hSw.cell 0; have e1 := hSw.cell 1; have e2 := hSw.cell 2; have el := hSw.lt; simp at e0 e1 e2; go_simp; try with_reducible rfl
  simp only [Act.put, List.getElem_toArray, List.getElem_cons_zero, List.getElem_cons_succ, List.setIfInBounds_toArray, List.set_cons_zero, List.set_cons_succ]
  refine wpAnyN_take (i := 6) (v := ?v7) rfl (by kernel_rfl) (by kernel_rfl) (by kernel_rfl) (by kernel_rfl) (fun _ _ _ h => h) (Or.inl ⟨by rfl, ?hy7⟩) (by assumption) ?_
  case hy7 => intro w hSw; have e0 := hSw.cell 0; have e1 := hSw.cell 1; have e2 := hSw.cell 2; have el := hSw.lt; simp at e0 e1 e2; go_simp; try with_reducible rfl
  simp only [Act.put, List.getElem_toArray, List.getElem_cons_zero, List.getElem_cons_succ, List.setIfInBounds_toArray, List.set_cons_zero, List.set_cons_succ]
  refine wpAnyN_take (i := 7) (v := ?v8) rfl (by kernel_rfl) (by kernel_rfl) (by kernel_rfl) (by kernel_rfl) (fun _ _ _ h => h) (Or.inl ⟨by rfl, ?hy8⟩) (by assumption) ?_
  case hy8 => intro w hSw; have e0 := hSw.cell 0; have e1 := hSw.cell 1; have e2 := hSw.cell 2; have el := hSw.lt; simp at e0 e1 e2; go_simp; try with_reducible rfl
  simp only [Act.put, List.getElem_toArray, List.getElem_cons_zero, List.getElem_cons_succ, List.setIfInBounds_toArray, List.set_cons_zero, List.set_cons_succ]
  refine wpAnyN_take (i := 8) (v := ?v9) rfl (by kernel_rfl) (by kernel_rfl) (by kernel_rfl) (by kernel_rfl) (fun _ _ _ h => h) (Or.inl ⟨by rfl, ?hy9⟩) (by assumption) ?_
  case hy9 => intro w hSw; have e0 := hSw.cell 0; have e1 := hSw.cell 1; have e2 := hSw.cell 2; have el := hSw.lt; simp at e0 e1 e2; go_simp; try with_reducible rfl
  simp only [Act.put, List.getElem_toArray, List.getElem_cons_zero, List.getElem_cons_succ, List.setIfInBounds_toArray, List.set_cons_zero, List.set_cons_succ]
  refine wpAnyN_take (i := 9) (v := ?v10) rfl (by kernel_rfl) (by kernel_rfl) (by kernel_rfl) (by kernel_rfl) (fun _ _ _ h => h) (Or.inl ⟨by rfl, ?hy10⟩) (by assumption) ?_
  case hy10 => intro w hSw; have e0 := hSw.cell 0; have e1 := hSw.cell 1; have e2 := hSw.cell 2; have el := hSw.lt; simp at e0 e1 e2; go_simp; try with_reducible rfl
  simp only [Act.put, List.getElem_toArray, List.getElem_cons_zero, List.getElem_cons_succ, List.setIfInBounds_toArray, List.set_cons_zero, List.set_cons_succ]
  refine wpAnyN_take (i := 10) (v := ?v11) rfl (by kernel_rfl) (by kernel_rfl) (by kernel_rfl) (by kernel_rfl) (fun _ _ _ h => h) (Or.inl ⟨by rfl, ?hy11⟩) (by assumption) ?_
  case hy11 => intro w hSw; have e0 := hSw.cell 0; have e1 := hSw.cell 1; have e2 := hSw.cell 2; have el := hSw.lt; simp at e0 e1 e2; go_simp; try with_reducible rfl
  simp only [Act.put, List.getElem_toArray, List.getElem_cons_zero, List.getElem_cons_succ, List.setIfInBounds_toArray, List.set_cons_zero, List.set_cons_succ]
  refine wpAnyN_take (i := 11) (v := ?v12) rfl (by kernel_rfl) (by kernel_rfl) (by kernel_rfl) (by kernel_rfl) (fun _ _ _ h => h) (Or.inl ⟨by rfl, ?hy12⟩) (by assumption) ?_
  case hy12 => intro w hSw; have e0 := hSw.cell 0; have e1 := hSw.cell 1; have e2 := hSw.cell 2; have el := hSw.lt; simp at e0 e1 e2; go_simp; try with_reducible rfl
  simp only [Act.put, List.getElem_toArray, List.getElem_cons_zero, List.getElem_cons_succ, List.setIfInBounds_toArray, List.set_cons_zero, List.set_cons_succ]
  refine wpAnyN_one (i := 12) (by kernel_rfl) rfl (fun K hK => ?_)
  simp only [List.getElem_toArray, List.getElem_cons_zero, List.getElem_cons_succ]
  go_simp
  refine (Height_any X0 H0.out hnc).mono ?_
  rintro e w1 ⟨rfl, hb1⟩
  have hk1 := hk0.next hb1
  have HB1 := Lib.hid (bNext hd0 hb1)
  have hS1 : (fun w' => Blk w' p 25 #[.slice A s.envs.length c, .int .i64 s.e, vc]) w1 := hk1
  clear hb1
  refine hK _ _ (fun _ => hS1) ?_
  (try simp only [Act.put, List.setIfInBounds_toArray, List.set_cons_zero, List.set_cons_succ])
  refine wpAnyN_one (i := 13) (by kernel_rfl) rfl (fun K hK => ?_)
  simp only [List.getElem_toArray, List.getElem_cons_zero, List.getElem_cons_succ]
  go_simp
  refine (greater_any s.e (protV s) w1).mono ?_
  rintro e w2 ⟨rfl, rfl⟩
  rw [← HM.out]
  refine hK _ _ (fun _ => hS1) ?_
  (try simp only [Act.put, List.setIfInBounds_toArray, List.set_cons_zero, List.set_cons_succ])
  refine wpAnyN_take (i := 14) (v := ?v13) rfl (by kernel_rfl) (by kernel_rfl) (by kernel_rfl) (by kernel_rfl) (fun _ _ _ h => h) (Or.inl ⟨by rfl, ?hy13⟩) (by assumption) ?_
  case hy13 => intro w hSw; have e0 := hSw.cell 0; have e1 := hSw.cell 1; have e2 := hSw.cell 2; have el := hSw.lt; simp at e0 e1 e2; go_simp; try with_reducible rfl
  simp only [Act.put, List.getElem_toArray, List.getElem_cons_zero, List.getElem_cons_succ, List.setIfInBounds_toArray, List.set_cons_zero, List.set_cons_succ]
  refine wpAnyN_one (i := 15) (by kernel_rfl) rfl (fun K hK => ?_)
  simp only [List.getElem_toArray, List.getElem_cons_zero, List.getElem_cons_succ]
  go_simp
  have f0 := hk1.frozen 0
  have g0 := hk1.cell 0
  have l0 := hk1.lt
  simp at g0
  go_simp
  refine hK _ _ (fun _ => hS1) ?_
  (try simp only [Act.put, List.setIfInBounds_toArray, List.set_cons_zero, List.set_cons_succ])
  refine wpAnyN_one (i := 16) (by kernel_rfl) rfl (fun K hK => ?_)
  simp only [List.getElem_toArray, List.getElem_cons_zero, List.getElem_cons_succ]
  go_simp
  refine hK _ _ (fun _ => hS1) ?_
  (try simp only [Act.put, List.setIfInBounds_toArray, List.set_cons_zero, List.set_cons_succ])
  refine wpAnyN_one (i := 17) (by kernel_rfl) rfl (fun K hK => ?_)
  simp only [List.getElem_toArray, List.getElem_cons_zero, List.getElem_cons_succ]
  go_simp
  go_simp
  refine hK _ _ (fun h => absurd h (by decide)) ?_
  (try simp only [Act.put, List.setIfInBounds_toArray, List.set_cons_zero, List.set_cons_succ])
  refine wpAnyN_done (by kernel_rfl) ?_ _
  go_wp2_with fail
  go_end0
  refine ⟨rfl, ?_, _, HB1.out, (Upd.refl p _).set 0 _⟩
  have hb := hk1.set_ 0 (.slice A m c)
  simpa using hb
end
section
open Go.RowKit

/-- what drop leaves, when the protected environments are there -/
theorem prot_cut {s : St} (g : Good s) {e : Int} (h0 : 0 ≤ e) (he : e ≤ s.envs.length) (k : Nat) : 0 ≤ max e (protV ⟨s.envs, e, s.chs.take k⟩) ∧ max e (protV ⟨s.envs, e, s.chs.take k⟩) ≤ s.envs.length := by
  have h1 : protV ⟨s.envs, e, s.chs.take k⟩ ≤ protV s := by
    rw [protV_high, protV_high]
    show highAt (s.chs.take k) (s.chs.take k).length ≤ _
    rw [high_take _ (by rw [List.length_take]; omega)]
    exact g.chOk.mono (by rw [List.length_take]; omega) (Nat.le_refl _)
  have h2 := g.high
  omega
/-- behind the reference's drop -/
theorem dropped_ref {w w1 w' : World} {B p : Nat} {s : St} {A A' : Option Addr} {c c' : Nat} {ys : List Value} {cs : List (Value × Value)} (h : Stk w B p s (.slice A s.envs.length c) (.slice A' s.chs.length c') ys cs) (hb1 : Below w.heap.size w w1) (hu : Upd p w1 w')
    (hb : Blk w' p 25 #[.slice A (keepN s) c, .int .i64 s.e, (.slice A' s.chs.length c')]) : Stk w' B p (dropV s) (.slice A (keepN s) c) (.slice A' s.chs.length c') (ys.take (keepN s)) cs := (h.next hb1).dropped hu hb
set_option maxHeartbeats 2000000 in
theorem Cut_any {B p : Nat} {s : St} {ve vc : Value} {ys : List Value} {cs : List (Value × Value)} (n : Int) (w : World) (h : Stk w B p s ve vc ys cs) (g : Good s) :
    Calls Try.prog 50 #[.pointer (some ⟨p, 0, none⟩), .int .i64 n] w (RetP B p (foot p ve vc ys cs) (.int .i64 (errOf (cutV s n))) (stOf s (cutV s n)) w) := by
  have hn := g.sized.envs
  have hnc := g.sized.chs
  obtain ⟨A, c, rfl, hcap⟩ := own_form h.envs
  obtain ⟨A', c', rfl, hcap'⟩ := own_form h.chs
  have hp := h.box.lt
  obtain ⟨c0, c1, c2⟩ := h.cells
  have H := Lib.hid h
  have G := Lib.hid g
  clear h hcap g
  have hcc := hcap'.1
  clear hcap'
  by_cases h0 : n < 0
  · have hv : cutV s n = .error 1 := by unfold cutV; rw [if_pos (.inl h0)]
    rw [hv]
    go_enter Try.func50, Try.ntmps50
    go_wp2_with fail
    go_ret
    exact ⟨rfl, ⟨_, _, _, _, H.out, fun g hg => .inl hg⟩, Kept.refl _ _⟩
  · by_cases h1 : (s.chs.length : Int) < n
    · have hv : cutV s n = .error 1 := by unfold cutV; rw [if_pos (.inr h1)]
      rw [hv]
      go_enter Try.func50, Try.ntmps50
      go_wp2_with fail
      go_ret
      exact ⟨rfl, ⟨_, _, _, _, H.out, fun g hg => .inl hg⟩, Kept.refl _ _⟩
    · obtain ⟨k, rfl⟩ : ∃ k : Nat, n = (k : Int) := ⟨n.toNat, by omega⟩
      have hk : k ≤ s.chs.length := by omega
      have hv : cutV s (k : Int) = .ok (dropV ⟨s.envs, s.e, s.chs.take k⟩) := by
        unfold cutV
        rw [if_neg (by omega), Int.toNat_natCast]
      rw [hv]
      have f2 := H.out.box.frozen 2
      have hb := H.out.box.set_ 2 (.slice A' k c')
      have hu := (Upd.refl p w).set 2 (.slice A' k c')
      obtain ⟨W, HW⟩ : ∃ X, Hid (X = w.setCell ⟨p, 2, none⟩ (.slice A' k c')) := ⟨_, rfl⟩
      rw [← HW.out] at hb hu
      have hs1 := H.out.boxed hu rfl rfl (Nat.le_refl _) hk (e := s.e) (by simpa using hb)
      have hy : ys.take s.envs.length = ys := by rw [← H.out.ylen, List.take_length]
      rw [List.take_length, hy] at hs1
      have hkl : (s.chs.take k).length = k := by rw [List.length_take]; omega
      have hpr := prot_cut G.out (e := s.e) G.out.e (by have := G.out.high; omega) k
      have hd := Drop_any W hs1 hn (by show (s.chs.take k).length ≤ _; omega) hpr.1 hpr.2
      have HD := Lib.hid hd
      have HU := Lib.hid hu
      have HS1 := Lib.hid hs1
      clear hd hu hs1 hb hpr
      go_enter Try.func50, Try.ntmps50
      go_upto_region 4 with fail
      rw [← HW.out]
      go_wp2_with fail
      refine HD.out.mono ?_
      rintro e w2 ⟨rfl, hb2, wm, hbm, hu2⟩
      have hs2 := (HS1.out.next hbm).boxed hu2 rfl (by show _ = Value.slice A' (s.chs.take k).length c'; rw [hkl]) (keepN_le _) (Nat.le_refl _) (by rw [hkl]; exact hb2)
      have HS2 := Lib.hid hs2
      have HU2 := Lib.hid hu2
      have HBM := Lib.hid hbm
      clear hs2 hu2 hb2 hbm
      go_wp2_with fail
      go_ret
      have h2 := HS2.out
      rw [List.take_length, List.take_take] at h2
      exact ⟨rfl, ⟨_, _, _, _, h2, fun g hg => .inl (foot_sub _ _ g hg)⟩, ((Kept.upd HU.out List.mem_cons_self).trans (Kept.below HBM.out)).trans (Kept.upd HU2.out List.mem_cons_self)⟩
end
section
open Go.RowKit

set_option maxHeartbeats 4000000 in
theorem Free_any {B p : Nat} {s : St} {ve vc : Value} {ys : List Value} {cs : List (Value × Value)} (w : World) (h : Stk w B p s ve vc ys cs) (g : Good s) :
    Calls Try.prog 44 #[.pointer (some ⟨p, 0, none⟩)] w (RetP B p (foot p ve vc ys cs) (freeT (freeV s)) (freeS s (freeV s)) w) := by
  have hn := g.sized.envs
  have hnc := g.sized.chs
  have hp := h.box.lt
  have ge := g.e
  have gh := g.high
  by_cases hc : 1 ≤ s.e ∧ s.e ≤ s.envs.length
  · obtain ⟨n, hn1⟩ : ∃ n : Nat, s.e = (n : Int) + 1 := ⟨(s.e - 1).toNat, by omega⟩
    have hlt : n < s.envs.length := by omega
    obtain ⟨x, hx⟩ : ∃ x, s.envs[n]? = some x := ⟨_, List.getElem?_eq_getElem hlt⟩
    have hxok := g.en n x hx
    have hv : freeV s = .ok (dropV ⟨s.envs, x.prev, s.chs⟩, x.id, x.pc) := by
      unfold freeV curN
      rw [if_pos hc, show (s.e - 1).toNat = n by omega]
      simp only [hx]
    rw [hv]
    show Calls Try.prog 44 _ w (RetP B p _ (.tuple #[.int .i64 x.id, .int .i64 x.pc, .int .i64 0]) (dropV ⟨s.envs, x.prev, s.chs⟩) w)
    have hpr := prot_cut g (e := x.prev) hxok.1 (by have := hxok.2.1; omega) s.chs.length
    rw [List.take_length] at hpr
    obtain ⟨gb, cap, v, rfl, hcap, hyv, hyr, k0, k1, k2, k3⟩ := h.enAt hx
    obtain ⟨A', c', rfl, hcap'⟩ := own_form h.chs
    obtain ⟨Ay, cy, rfl, -⟩ := own_form hyr
    obtain ⟨c0, c1, c2⟩ := h.cells
    have H := Lib.hid h
    have HPR := Lib.hid hpr
    have hw1 : IntKind.i64.wrap (n : Int) = (n : Int) := by rw [IntKind.wrap_i64]; omega
    have hnI : (n : Int) < (s.envs.length : Int) := by omega
    rw [hn1] at c1
    have hgl := (h.envs.lt gb rfl).2
    clear h hv hpr hxok ge gh hc
    go_enter Try.func44, Try.ntmps44
    go_upto_region 5 with fail
    obtain ⟨X0, HX⟩ : ∃ X, Hid (X = w.drew) := ⟨_, rfl⟩
    have hd0 : Below w.heap.size w X0 := by rw [HX.out]; exact bDrew w
    have H0 := Lib.hid (H.out.next hd0)
    have HB0 := Lib.hid hd0
    refine wp_region_N (fun w' => w'.cell? ⟨p, 0, none⟩ = some (.slice (some ⟨gb, 0, none⟩) s.envs.length cap) ∧ w'.cell? ⟨p, 1, none⟩ = some (.int .i64 ((n : Int) + 1)) ∧ w'.cell? ⟨gb, n * 4, none⟩ = some (.int .i64 x.prev) ∧ w'.cell? ⟨gb, n * 4 + 1, none⟩ = some (.int .i64 x.id) ∧ w'.cell? ⟨gb, n * 4 + 2, none⟩ = some (.int .i64 x.pc) ∧ w'.cell? ⟨gb, n * 4 + 3, none⟩ = some (.slice Ay x.y.length cy) ∧ p < w'.heap.size ∧ gb < w'.heap.size) (fun j => decide (j < 12)) (by kernel_rfl) ?_
    rw [← HX.out]
    have hS0 : (fun w' => w'.cell? ⟨p, 0, none⟩ = some (.slice (some ⟨gb, 0, none⟩) s.envs.length cap) ∧ w'.cell? ⟨p, 1, none⟩ = some (.int .i64 ((n : Int) + 1)) ∧ w'.cell? ⟨gb, n * 4, none⟩ = some (.int .i64 x.prev) ∧ w'.cell? ⟨gb, n * 4 + 1, none⟩ = some (.int .i64 x.id) ∧ w'.cell? ⟨gb, n * 4 + 2, none⟩ = some (.int .i64 x.pc) ∧ w'.cell? ⟨gb, n * 4 + 3, none⟩ = some (.slice Ay x.y.length cy) ∧ p < w'.heap.size ∧ gb < w'.heap.size) X0 := by rw [HX.out]; exact ⟨c0, c1, k0, k1, k2, k3, hp, hgl⟩
    clear HX
    refine wpAnyN_take (i := 0) (v := ?v1) rfl (by kernel_rfl) (by kernel_rfl) (by kernel_rfl) (by kernel_rfl) (fun _ _ _ h => h) (Or.inl ⟨by rfl, ?hy1⟩) (by assumption) ?_
    case hy1 => intro w hSw; obtain ⟨e0, e1, e2, e3, e4, e5, el, eg⟩ := hSw; go_simp; try with_reducible rfl
    simp only [Act.put, List.getElem_toArray, List.getElem_cons_zero, List.setIfInBounds_toArray, List.set_cons_zero, List.set_cons_succ]
    refine wpAnyN_take (i := 1) (v := ?v2) rfl (by kernel_rfl) (by kernel_rfl) (by kernel_rfl) (by kernel_rfl) (fun _ _ _ h => h) (Or.inl ⟨by rfl, ?hy2⟩) (by assumption) ?_
    case hy2 => intro w hSw; obtain ⟨e0, e1, e2, e3, e4, e5, el, eg⟩ := hSw; go_simp; try with_reducible rfl
    simp only [Act.put, List.getElem_toArray, List.getElem_cons_zero, List.getElem_cons_succ, List.setIfInBounds_toArray, List.set_cons_zero, List.set_cons_succ]
    refine wpAnyN_take (i := 2) (v := ?v3) rfl (by kernel_rfl) (by kernel_rfl) (by kernel_rfl) (by kernel_rfl) (fun _ _ _ h => h) (Or.inl ⟨by rfl, ?hy3⟩) (by assumption) ?_
    case hy3 => intro w hSw; obtain ⟨e0, e1, e2, e3, e4, e5, el, eg⟩ := hSw; go_simp; try with_reducible rfl
    simp only [Act.put, List.getElem_toArray, List.getElem_cons_zero, List.getElem_cons_succ, List.setIfInBounds_toArray, List.set_cons_zero, List.set_cons_succ]
    refine wpAnyN_take (i := 3) (v := ?v4) rfl (by kernel_rfl) (by kernel_rfl) (by kernel_rfl) (by kernel_rfl) (fun _ _ _ h => h) (Or.inl ⟨by rfl, ?hy4⟩) (by assumption) ?_
    case hy4 => intro w hSw; obtain ⟨e0, e1, e2, e3, e4, e5, el, eg⟩ := hSw; go_simp; try with_reducible rfl
    simp only [Act.put, List.getElem_toArray, List.getElem_cons_zero, List.getElem_cons_succ, List.setIfInBounds_toArray, List.set_cons_zero, List.set_cons_succ]
    refine wpAnyN_take (i := 4) (v := ?v5) rfl (by kernel_rfl) (by kernel_rfl) (by kernel_rfl) (by kernel_rfl) (fun _ _ _ h => h) (Or.inl ⟨by rfl, ?hy5⟩) (by assumption) ?_
    case hy5 => intro w hSw; obtain ⟨e0, e1, e2, e3, e4, e5, el, eg⟩ := hSw; go_simp; try with_reducible rfl
    simp only [Act.put, List.getElem_toArray, List.getElem_cons_zero, List.getElem_cons_succ, List.setIfInBounds_toArray, List.set_cons_zero, List.set_cons_succ]
    refine wpAnyN_take (i := 5) (v := ?v6) rfl (by kernel_rfl) (by kernel_rfl) (by kernel_rfl) (by kernel_rfl) (fun _ _ _ h => h) (Or.inl ⟨by rfl, ?hy6⟩) (by assumption) ?_
    case hy6 => intro w hSw; obtain ⟨e0, e1, e2, e3, e4, e5, el, eg⟩ := hSw; go_simp; try with_reducible rfl
    simp only [Act.put, List.getElem_toArray, List.getElem_cons_zero, List.getElem_cons_succ, List.setIfInBounds_toArray, List.set_cons_zero, List.set_cons_succ]
    refine wpAnyN_take (i := 6) (v := ?v7) rfl (by kernel_rfl) (by kernel_rfl) (by kernel_rfl) (by kernel_rfl) (fun _ _ _ h => h) (Or.inl ⟨by rfl, ?hy7⟩) (by assumption) ?_
    case hy7 => intro w hSw; obtain ⟨e0, e1, e2, e3, e4, e5, el, eg⟩ := hSw; go_simp; try with_reducible rfl
    simp only [Act.put, List.getElem_toArray, List.getElem_cons_zero, List.getElem_cons_succ, List.setIfInBounds_toArray, List.set_cons_zero, List.set_cons_succ]
    refine wpAnyN_take (i := 7) (v := ?v8) rfl (by kernel_rfl) (by kernel_rfl) (by kernel_rfl) (by kernel_rfl) (fun _ _ _ h => h) (Or.inl ⟨by rfl, ?hy8⟩) (by assumption) ?_
    case hy8 => intro w hSw; obtain ⟨e0, e1, e2, e3, e4, e5, el, eg⟩ := hSw; go_simp; try with_reducible rfl
    simp only [Act.put, List.getElem_toArray, List.getElem_cons_zero, List.getElem_cons_succ, List.setIfInBounds_toArray, List.set_cons_zero, List.set_cons_succ]
    refine wpAnyN_take (i := 8) (v := ?v9) rfl (by kernel_rfl) (by kernel_rfl) (by kernel_rfl) (by kernel_rfl) (fun _ _ _ h => h) (Or.inl ⟨by rfl, ?hy9⟩) (by assumption) ?_
    case hy9 => intro w hSw; obtain ⟨e0, e1, e2, e3, e4, e5, el, eg⟩ := hSw; go_simp; try with_reducible rfl
    simp only [Act.put, List.getElem_toArray, List.getElem_cons_zero, List.getElem_cons_succ, List.setIfInBounds_toArray, List.set_cons_zero, List.set_cons_succ]
    refine wpAnyN_take (i := 9) (v := ?v10) rfl (by kernel_rfl) (by kernel_rfl) (by kernel_rfl) (by kernel_rfl) (fun _ _ _ h => h) (Or.inl ⟨by rfl, ?hy10⟩) (by assumption) ?_
    case hy10 => intro w hSw; obtain ⟨e0, e1, e2, e3, e4, e5, el, eg⟩ := hSw; go_simp; try with_reducible rfl
    simp only [Act.put, List.getElem_toArray, List.getElem_cons_zero, List.getElem_cons_succ, List.setIfInBounds_toArray, List.set_cons_zero, List.set_cons_succ]
    refine wpAnyN_take (i := 10) (v := ?v11) rfl (by kernel_rfl) (by kernel_rfl) (by kernel_rfl) (by kernel_rfl) (fun _ _ _ h => h) (Or.inl ⟨by rfl, ?hy11⟩) (by assumption) ?_
    case hy11 => intro w hSw; obtain ⟨e0, e1, e2, e3, e4, e5, el, eg⟩ := hSw; go_simp; try with_reducible rfl
    simp only [Act.put, List.getElem_toArray, List.getElem_cons_zero, List.getElem_cons_succ, List.setIfInBounds_toArray, List.set_cons_zero, List.set_cons_succ]
    refine wpAnyN_one (i := 11) (by kernel_rfl) rfl (fun K hK => ?_)
    simp only [List.getElem_toArray, List.getElem_cons_zero, List.getElem_cons_succ]
    go_simp
    have hbA := bAlloc X0 (.cells #[.int .i64 0, .int .i64 0, .int .i64 0, .slice none 0 0] 54)
    have hS1 : (fun w' => w'.cell? ⟨p, 0, none⟩ = some (.slice (some ⟨gb, 0, none⟩) s.envs.length cap) ∧ w'.cell? ⟨p, 1, none⟩ = some (.int .i64 ((n : Int) + 1)) ∧ w'.cell? ⟨gb, n * 4, none⟩ = some (.int .i64 x.prev) ∧ w'.cell? ⟨gb, n * 4 + 1, none⟩ = some (.int .i64 x.id) ∧ w'.cell? ⟨gb, n * 4 + 2, none⟩ = some (.int .i64 x.pc) ∧ w'.cell? ⟨gb, n * 4 + 3, none⟩ = some (.slice Ay x.y.length cy) ∧ p < w'.heap.size ∧ gb < w'.heap.size) (X0.alloc (.cells #[.int .i64 0, .int .i64 0, .int .i64 0, .slice none 0 0] 54)) := by
      obtain ⟨e0, e1, e2, e3, e4, e5, el, eg⟩ := hS0
      exact ⟨(hbA.cell (p := ⟨p, 0, none⟩) el).trans e0, (hbA.cell (p := ⟨p, 1, none⟩) el).trans e1, (hbA.cell (p := ⟨gb, n * 4, none⟩) eg).trans e2, (hbA.cell (p := ⟨gb, n * 4 + 1, none⟩) eg).trans e3, (hbA.cell (p := ⟨gb, n * 4 + 2, none⟩) eg).trans e4, (hbA.cell (p := ⟨gb, n * 4 + 3, none⟩) eg).trans e5, Nat.lt_of_lt_of_le el hbA.size, Nat.lt_of_lt_of_le eg hbA.size⟩
    obtain ⟨W1, HW1⟩ : ∃ X, Hid (X = X0.alloc (.cells #[.int .i64 0, .int .i64 0, .int .i64 0, .slice none 0 0] 54)) := ⟨_, rfl⟩
    obtain ⟨q5, hq5⟩ : ∃ q, Hid (q = X0.heap.size) := ⟨_, rfl⟩
    have k5 : Blk W1 q5 54 #[.int .i64 0, .int .i64 0, .int .i64 0, .slice none 0 0] := by rw [HW1.out, hq5.out]; exact Blk.new _ _ _
    have hq5w : w.heap.size ≤ q5 := by rw [hq5.out]; exact hd0.size
    rw [← HW1.out] at hbA hS1
    try rw [← HW1.out]
    try rw [← hq5.out]
    have HBA := Lib.hid hbA
    clear hbA
    refine hK _ _ (fun _ => hS1) ?_
    (try simp only [Act.put, List.setIfInBounds_toArray, List.set_cons_zero, List.set_cons_succ])
    refine wpAnyN_one (i := 12) (by kernel_rfl) rfl (fun K hK => ?_)
    simp only [List.getElem_toArray, List.getElem_cons_zero, List.getElem_cons_succ]
    go_simp
    have g0 := k5.cell 0
    have g1 := k5.cell 1
    have g2 := k5.cell 2
    have g3 := k5.cell 3
    simp at g0 g1 g2 g3
    have f0 := k5.frozen 0
    have f1 := k5.frozen 1
    have f2 := k5.frozen 2
    have f3 := k5.frozen 3
    have l5 := k5.lt
    try go_simp
    refine hK _ _ (fun h => absurd h (by decide)) ?_
    (try simp only [Act.put, List.setIfInBounds_toArray, List.set_cons_zero, List.set_cons_succ])
    refine wpAnyN_done (by kernel_rfl) ?_ _
    obtain ⟨W2, HW2⟩ : ∃ X, Hid (X = (((W1.setCell ⟨q5, 0, none⟩ (.int .i64 x.prev)).setCell ⟨q5, 1, none⟩ (.int .i64 x.id)).setCell ⟨q5, 2, none⟩ (.int .i64 x.pc)).setCell ⟨q5, 3, none⟩ (.slice Ay x.y.length cy)) := ⟨_, rfl⟩
    have k2' := (((k5.set_ 0 (.int .i64 x.prev)).set_ 1 (.int .i64 x.id)).set_ 2 (.int .i64 x.pc)).set_ 3 (.slice Ay x.y.length cy)
    have hu2 := ((((Upd.refl q5 W1).set 0 (.int .i64 x.prev)).set 1 (.int .i64 x.id)).set 2 (.int .i64 x.pc)).set 3 (.slice Ay x.y.length cy)
    try rw [← HW2.out]
    rw [← HW2.out] at k2' hu2
    have k6 : Blk W2 q5 54 #[.int .i64 x.prev, .int .i64 x.id, .int .i64 x.pc, .slice Ay x.y.length cy] := by simpa using k2'
    have HB2 := Lib.hid (hu2.below (bNext hd0 HBA.out) hq5w)
    have H2 := Lib.hid (H.out.next HB2.out)
    clear HW2 k2' hu2 g0 g1 g2 g3 f0 f1 f2 f3 l5 k5 HW1 HBA hS1 hS0 hd0 c0 c1 c2 k0 k1 k2 k3 H0 HB0
    have hk := H2.out.box
    obtain ⟨c0, c1, c2⟩ := H2.out.cells
    have fr1 := hk.frozen 1
    have hl := hk.lt
    have g0 := k6.cell 0
    have l6 := k6.lt
    simp at g0
    have hb := hk.set_ 1 (.int .i64 x.prev)
    have hu := (Upd.refl p W2).set 1 (.int .i64 x.prev)
    obtain ⟨W, HW⟩ : ∃ X, Hid (X = W2.setCell ⟨p, 1, none⟩ (.int .i64 x.prev)) := ⟨_, rfl⟩
    rw [← HW.out] at hb hu
    have hs1 := H2.out.boxE hu (e := x.prev) (by simpa using hb)
    have hpr := HPR.out
    have hd := Drop_any W hs1 hn hnc hpr.1 hpr.2
    have hqp : q5 ≠ p := by omega
    have K7 := Lib.hid ((hu.block q5 hqp).trans k6)
    have HD := Lib.hid hd
    have HU := Lib.hid hu
    have HS1 := Lib.hid hs1
    clear hd hu hs1 hb hpr
    go_upto_region 7 with fail
    rw [← HW.out]
    clear g0 l6 k6
    go_wp2_with fail
    refine HD.out.mono ?_
    rintro e w2 ⟨rfl, hb2, wm, hbm, hu2⟩
    have HS2 := Lib.hid (dropped_ref HS1.out hbm hu2 hb2)
    have HU2 := Lib.hid hu2
    have k8 : Blk w2 q5 54 #[.int .i64 x.prev, .int .i64 x.id, .int .i64 x.pc, .slice Ay x.y.length cy] := (hu2.block q5 hqp).trans (Blk.next (show Blk W q5 54 _ from K7.out) hbm)
    have HBM := Lib.hid hbm
    clear hu2 hb2 hbm
    have g1 := k8.cell 1
    have g2 := k8.cell 2
    have l8 := k8.lt
    simp at g1 g2
    clear k8
    go_upto_region 8 with fail
    go_quiet (fail)
    go_wp2_with fail
    refine bodyPost_ret (v := .tuple #[.int .i64 x.id, .int .i64 x.pc, .int .i64 0]) (by simp only [results, Try.results44]; go_simp) rfl ?_
    exact ⟨rfl, ⟨_, _, _, _, HS2.out.next (bDrewN (Below.refl _ _) _), fun g hg => .inl (foot_drop _ rfl g hg)⟩, ((((Kept.below HB2.out).trans (Kept.upd HU.out List.mem_cons_self)).trans (Kept.below HBM.out)).trans (Kept.upd HU2.out List.mem_cons_self)).trans (Kept.below (bDrewN (Below.refl _ _) _))⟩
  · have hv : freeV s = .error 5 := by unfold freeV curN; rw [if_neg hc]
    rw [hv]
    obtain ⟨c0, c1, c2⟩ := h.cells
    rw [show s.e = 0 by omega] at c1
    have H := Lib.hid h
    clear h g
    go_enter Try.func44, Try.ntmps44
    go_wp2_with fail
    refine bodyPost_ret (v := .tuple #[.int .i64 0, .int .i64 0, .int .i64 5]) (by simp only [results, Try.results44]; go_simp) rfl ?_
    exact ⟨rfl, ⟨_, _, _, _, H.out, fun g hg => .inl hg⟩, Kept.refl _ _⟩
end
section
open Go.RowKit

set_option maxHeartbeats 4000000 in
theorem Get_any {B p : Nat} {s : St} {ve vc : Value} {ys : List Value} {cs : List (Value × Value)} (y : Int) (w : World) (h : Stk w B p s ve vc ys cs) (g : Good s) :
    Calls Try.prog 46 #[.agg #[ve, .int .i64 s.e, vc], .int .i64 y] w fun e w' => e = .returned (getT (getV s y)) ∧ Below w.heap.size w w' := by
  have hn := g.sized.envs
  have hny := g.sized.y
  have ge := g.e
  have gh := g.high
  have hBw : B ≤ w.heap.size := Nat.le_of_lt (Nat.lt_of_le_of_lt h.low h.box.lt)
  obtain ⟨W, HW⟩ : ∃ W, Hid (W = (w.alloc (.cells #[ve, .int .i64 s.e, vc] 25)).alloc (.cells #[.int .i64 0, .int .i64 0] 38)) := ⟨_, rfl⟩
  have hbW : Below w.heap.size w W := by rw [HW.out]; exact (bAlloc w _).alloc (by simp) _
  have hk0 : Blk W w.heap.size 25 #[ve, .int .i64 s.e, vc] := by rw [HW.out]; exact (Blk.new w _ _).alloc _
  have hk1 : Blk W (w.heap.size + 1) 38 #[.int .i64 0, .int .i64 0] := by
    have h := Blk.new (w.alloc (.cells #[ve, .int .i64 s.e, vc] 25)) 38 #[.int .i64 0, .int .i64 0]
    rw [World.size_alloc] at h
    rw [HW.out]; exact h
  have hs := h.rebox hbW hk0 hBw
  have HB := Lib.hid hbW
  have HK1 := Lib.hid hk1
  obtain ⟨q4, hq4⟩ : ∃ q, Hid (q = w.heap.size + 1) := ⟨_, rfl⟩
  obtain ⟨q2, hq2⟩ : ∃ q, Hid (q = w.heap.size) := ⟨_, rfl⟩
  have hq4w : w.heap.size ≤ q4 := by rw [hq4.out]; omega
  rw [← hq4.out] at hk1 HK1
  rw [← hq2.out] at hs hk0
  obtain ⟨A, c, rfl, hcap⟩ := own_form h.envs
  obtain ⟨A', c', rfl, hcap'⟩ := own_form h.chs
  by_cases hc : 1 ≤ s.e ∧ s.e ≤ s.envs.length
  · obtain ⟨n, hn1⟩ : ∃ n : Nat, s.e = (n : Int) + 1 := ⟨(s.e - 1).toNat, by omega⟩
    have hlt : n < s.envs.length := by omega
    obtain ⟨x, hx⟩ : ∃ x, s.envs[n]? = some x := ⟨_, List.getElem?_eq_getElem hlt⟩
    have hxl := hny x (List.mem_of_getElem? hx)
    obtain ⟨gb, cap, v, e1, hcap, hyv, hyr, k0, k1, k2, k3⟩ := hs.enAt hx
    injection e1 with e1 _ e2
    subst e1 e2
    obtain ⟨c0, c1, c2⟩ := hs.cells
    rw [hn1] at c1
    obtain ⟨Ay, cy, rfl, hcy⟩ := own_form hyr
    have hcy := hcy.1
    have hgv : getV s y = if y < 1 ∨ (x.y.length : Int) < y then .error 1 else match x.y[(y - 1).toNat]? with
      | some c => .ok c
      | none => .error 1 := by
      unfold getV curN
      rw [if_pos hc, show (s.e - 1).toNat = n by omega]
      simp only [hx]
      try rfl
    have HGV := Lib.hid hgv
    have hgl := (hs.envs.lt gb rfl).2
    have hw1 : IntKind.i64.wrap (n : Int) = (n : Int) := by rw [IntKind.wrap_i64]; omega
    have hnI : (n : Int) < (s.envs.length : Int) := by omega
    have hp2 := hk0.lt
    have r0 := hk1.cell 0
    have r1 := hk1.cell 1
    have t0 := hk1.frozen 0
    have t1 := hk1.frozen 1
    have tl := hk1.lt
    simp at r0 r1
    rw [hn1] at HW
    have h1 := hn1
    obtain ⟨z0, z1, HZ⟩ : ∃ z0 z1, Hid (z0 = s.e ∧ z1 = (n : Int) + 1) := ⟨_, _, rfl, rfl⟩
    rw [hn1]
    clear HZ z0 z1 h1 hn1 h hs hbW hk0 hk1 hgv hc ge gh
    by_cases hy : y < 1
    · rw [HGV.out, if_pos (.inl hy)]
      go_enter Try.func46, Try.ntmps46
      go_upto_region 1 with fail
      rw [← HW.out]
      try rw [← hq4.out]
      try rw [← hq2.out]
      clear HW
      go_wp2_with fail
      obtain ⟨W3, HW3⟩ : ∃ X, Hid (X = W.alloc (.cells #[.int .i64 x.prev, .int .i64 x.id, .int .i64 x.pc, .slice Ay x.y.length cy] 54)) := ⟨_, rfl⟩
      refine bodyPost_ret (v := .tuple #[.agg #[.int .i64 0, .int .i64 0], .int .i64 1]) (by simp only [results, Try.results46]; go_simp) rfl ⟨rfl, ?_⟩
      refine Below.alloc (Below.setCell (Below.setCell HB.out ?_ _) ?_ _) ?_ _
      · exact hq4w
      · exact hq4w
      · simpa using HB.out.size
    · by_cases hy2 : (x.y.length : Int) < y
      · rw [HGV.out, if_pos (.inr hy2)]
        go_enter Try.func46, Try.ntmps46
        go_upto_region 1 with fail
        rw [← HW.out]
        try rw [← hq4.out]
        try rw [← hq2.out]
        clear HW
        go_wp2_with fail
        obtain ⟨W3, HW3⟩ : ∃ X, Hid (X = W.alloc (.cells #[.int .i64 x.prev, .int .i64 x.id, .int .i64 x.pc, .slice Ay x.y.length cy] 54)) := ⟨_, rfl⟩
        refine bodyPost_ret (v := .tuple #[.agg #[.int .i64 0, .int .i64 0], .int .i64 1]) (by simp only [results, Try.results46]; go_simp) rfl ⟨rfl, ?_⟩
        refine Below.alloc (Below.setCell (Below.setCell HB.out ?_ _) ?_ _) ?_ _
        · exact hq4w
        · exact hq4w
        · simpa using HB.out.size
      · obtain ⟨m, rfl⟩ : ∃ m : Nat, y = (m : Int) + 1 := ⟨(y - 1).toNat, by omega⟩
        obtain ⟨cl, hcl⟩ : ∃ cl, x.y[m]? = some cl := ⟨_, List.getElem?_eq_getElem (by omega)⟩
        rw [HGV.out, if_neg (by omega), show ((m : Int) + 1 - 1).toNat = m by omega, hcl]
        have hml : m < x.y.length := by omega
        have hw2 : IntKind.i64.wrap (m : Int) = (m : Int) := by rw [IntKind.wrap_i64]; omega
        have hmI : (m : Int) < (x.y.length : Int) := by omega
        obtain ⟨gy, cz, ey⟩ : ∃ gy cz, Value.slice Ay x.y.length cy = .slice (some ⟨gy, 0, none⟩) x.y.length cz := own_head hyr (by omega)
        injection ey with ey0 _ ey
        subst ey0 ey
        obtain ⟨u0, u1⟩ := cCs_at hcl
        have v0 := own_cell hyr u0
        have v1 := own_cell hyr u1
        have vl := (hyr.lt gy rfl).2
        clear u0 u1 hyr
        go_enter Try.func46, Try.ntmps46
        go_upto_region 1 with fail
        rw [← HW.out]
        try rw [← hq4.out]
        try rw [← hq2.out]
        clear HW
        go_wp2_with fail
        refine bodyPost_ret (v := .tuple #[cl.v, .int .i64 0]) (by simp only [results, Try.results46]; go_simp) rfl ⟨rfl, ?_⟩
        refine Below.alloc (Below.setCell (Below.setCell HB.out ?_ _) ?_ _) ?_ _
        · exact hq4w
        · exact hq4w
        · simpa using HB.out.size
  · have hv : getV s y = .error 5 := by unfold getV curN; rw [if_neg hc]
    rw [hv]
    obtain ⟨c0, c1, c2⟩ := hs.cells
    have he0 : s.e = 0 := by omega
    rw [he0] at c1 HW ⊢
    have r0 := hk1.cell 0
    have r1 := hk1.cell 1
    have t0 := hk1.frozen 0
    have t1 := hk1.frozen 1
    have tl := hk1.lt
    have hp2 := hk0.lt
    simp at r0 r1
    clear he0 h hs hbW hk0 hk1 hv hc
    go_enter Try.func46, Try.ntmps46
    go_upto_region 1 with fail
    rw [← HW.out]
    try rw [← hq4.out]
    try rw [← hq2.out]
    clear HW
    go_wp2_with fail
    refine bodyPost_ret (v := .tuple #[.agg #[.int .i64 0, .int .i64 0], .int .i64 5]) (by simp only [results, Try.results46]; go_simp) rfl ⟨rfl, ?_⟩
    exact (HB.out.setCell (by exact hq4w) _).setCell (by exact hq4w) _
end
section
open Go.RowKit

set_option maxHeartbeats 4000000 in
theorem Trim_any {B p : Nat} {s : St} {ve vc : Value} {ys : List Value} {cs : List (Value × Value)} (t : Int) (w : World) (h : Stk w B p s ve vc ys cs) (g : Good s) :
    Calls Try.prog 45 #[.pointer (some ⟨p, 0, none⟩), .int .i64 t] w (RetP B p (foot p ve vc ys cs) (.int .i64 (errOf (trimV s t))) (stOf s (trimV s t)) w) := by
  have hn := g.sized.envs
  have hnc := g.sized.chs
  have hny := g.sized.y
  have ge := g.e
  have gh := g.high
  have hp := h.box.lt
  by_cases hc : 1 ≤ s.e ∧ s.e ≤ s.envs.length
  · obtain ⟨n, hn1⟩ : ∃ n : Nat, s.e = (n : Int) + 1 := ⟨(s.e - 1).toNat, by omega⟩
    have hlt : n < s.envs.length := by omega
    obtain ⟨x, hx⟩ : ∃ x, s.envs[n]? = some x := ⟨_, List.getElem?_eq_getElem hlt⟩
    have hxl := hny x (List.mem_of_getElem? hx)
    have htv : trimV s t = if t < 0 ∨ (x.y.length : Int) < t then .error 1 else if protV s < s.e then .ok ⟨s.envs.set n { x with y := x.y.take t.toNat }, s.e, s.chs⟩ else .ok s := by
      unfold trimV curN
      rw [if_pos hc, show (s.e - 1).toNat = n by omega]
      simp only [hx]
    rw [htv]
    clear htv
    obtain ⟨gb, cap, v, rfl, hcap, hyv, hyr, k0, k1, k2, k3⟩ := h.enAt hx
    obtain ⟨A', c', rfl, hcap'⟩ := own_form h.chs
    obtain ⟨Ay, cy, rfl, hcy⟩ := own_form hyr
    have hcy := hcy.1
    obtain ⟨c0, c1, c2⟩ := h.cells
    rw [hn1] at c1
    have H := Lib.hid h
    have HYR := Lib.hid hyr
    have hgl := (h.envs.lt gb rfl).2
    have hw1 : IntKind.i64.wrap (n : Int) = (n : Int) := by rw [IntKind.wrap_i64]; omega
    have hnI : (n : Int) < (s.envs.length : Int) := by omega
    have HN := Lib.hid hn1
    clear h hyr hc ge gh hn1
    by_cases ht : t < 0
    · rw [if_pos (.inl ht)]
      have d1 : decide (t < 0) = true := by simpa using ht
      go_enter Try.func45, Try.ntmps45
      go_wp2_with fail
      go_quiet (fail)
      go_wp2_with fail
      go_ret
      exact ⟨rfl, ⟨_, _, _, _, H.out.next (bDrewN (Below.refl _ _) _), fun g hg => .inl hg⟩, Kept.below (bDrewN (Below.refl _ _) _)⟩
    · by_cases ht2 : (x.y.length : Int) < t
      · rw [if_pos (.inr ht2)]
        go_enter Try.func45, Try.ntmps45
        go_wp2_with fail
        go_quiet (fail)
        go_wp2_with fail
        go_ret
        exact ⟨rfl, ⟨_, _, _, _, H.out.next (bDrewN (Below.refl _ _) _), fun g hg => .inl hg⟩, Kept.below (bDrewN (Below.refl _ _) _)⟩
      · rw [if_neg (by omega)]
        obtain ⟨m, rfl⟩ : ∃ m : Nat, t = (m : Int) := ⟨t.toNat, by omega⟩
        have hml : m ≤ x.y.length := by omega
        have hmc : m ≤ cy := by omega
        by_cases hpr : protV s < s.e
        · rw [if_pos hpr, Int.toNat_natCast]
          have hpr2 : decide (protV s < (n : Int) + 1) = true := by rw [← HN.out]; exact decide_eq_true hpr
          clear hpr
          go_enter Try.func45, Try.ntmps45
          go_wp2_with fail
          go_quiet (fail)
          go_upto_region 8 with fail
          obtain ⟨w1, HW1⟩ : ∃ X, Hid (X = w.drewN nq) := ⟨_, rfl⟩
          rw [← HW1.out]
          have hb1 : Below w.heap.size w w1 := by rw [HW1.out]; exact bDrewN (Below.refl _ _) _
          obtain ⟨X0, HX⟩ : ∃ X, Hid (X = w1.drew) := ⟨_, rfl⟩
          have hd0 : Below w1.heap.size w1 X0 := by rw [HX.out]; exact bDrew w1
          have HB0 := Lib.hid (bNext hb1 hd0)
          have H0 := Lib.hid (H.out.next HB0.out)
          have hk0 := H0.out.box
          rw [HN.out] at hk0
          refine wp_region_N (fun w' => Blk w' p 25 #[.slice (some ⟨gb, 0, none⟩) s.envs.length cap, .int .i64 ((n : Int) + 1), .slice A' s.chs.length c']) (fun _ => true) (by kernel_rfl) ?_
          rw [← HX.out]
          have hS0 : (fun w' => Blk w' p 25 #[.slice (some ⟨gb, 0, none⟩) s.envs.length cap, .int .i64 ((n : Int) + 1), .slice A' s.chs.length c']) X0 := hk0
          clear HX HW1 hb1 hd0
          refine wpAnyN_take (i := 0) (v := ?vy1) rfl (by kernel_rfl) (by kernel_rfl) (by kernel_rfl) (by kernel_rfl) (fun _ _ _ h => h) (Or.inl ⟨by rfl, ?hyy1⟩) (by assumption) ?_
          case hyy1 => intro w hSw; have e0 := hSw.cell 0; have e1 := hSw.cell 1; have e2 := hSw.cell 2; have el := hSw.lt; simp at e0 e1 e2; go_simp; try with_reducible rfl
          simp only [Act.put, List.getElem_toArray, List.getElem_cons_zero, List.setIfInBounds_toArray, List.set_cons_zero, List.set_cons_succ]
          refine wpAnyN_take (i := 1) (v := ?vy2) rfl (by kernel_rfl) (by kernel_rfl) (by kernel_rfl) (by kernel_rfl) (fun _ _ _ h => h) (Or.inl ⟨by rfl, ?hyy2⟩) (by assumption) ?_
          case hyy2 => intro w hSw; have e0 := hSw.cell 0; have e1 := hSw.cell 1; have e2 := hSw.cell 2; have el := hSw.lt; simp at e0 e1 e2; go_simp; try with_reducible rfl
          simp only [Act.put, List.getElem_toArray, List.getElem_cons_zero, List.getElem_cons_succ, List.setIfInBounds_toArray, List.set_cons_zero, List.set_cons_succ]
          refine wpAnyN_take (i := 2) (v := ?vy3) rfl (by kernel_rfl) (by kernel_rfl) (by kernel_rfl) (by kernel_rfl) (fun _ _ _ h => h) (Or.inl ⟨by rfl, ?hyy3⟩) (by assumption) ?_
          case hyy3 => intro w hSw; have e0 := hSw.cell 0; have e1 := hSw.cell 1; have e2 := hSw.cell 2; have el := hSw.lt; simp at e0 e1 e2; go_simp; try with_reducible rfl
          simp only [Act.put, List.getElem_toArray, List.getElem_cons_zero, List.getElem_cons_succ, List.setIfInBounds_toArray, List.set_cons_zero, List.set_cons_succ]
          refine wpAnyN_take (i := 3) (v := ?vy4) rfl (by kernel_rfl) (by kernel_rfl) (by kernel_rfl) (by kernel_rfl) (fun _ _ _ h => h) (Or.inl ⟨by rfl, ?hyy4⟩) (by assumption) ?_
          case hyy4 => intro w hSw; have e0 := hSw.cell 0; have e1 := hSw.cell 1; have e2 := hSw.cell 2; have el := hSw.lt; simp at e0 e1 e2; go_simp; try with_reducible rfl
          simp only [Act.put, List.getElem_toArray, List.getElem_cons_zero, List.getElem_cons_succ, List.setIfInBounds_toArray, List.set_cons_zero, List.set_cons_succ]
          refine wpAnyN_take (i := 4) (v := ?vy5) rfl (by kernel_rfl) (by kernel_rfl) (by kernel_rfl) (by kernel_rfl) (fun _ _ _ h => h) (Or.inl ⟨by rfl, ?hyy5⟩) (by assumption) ?_
          case hyy5 => intro w hSw; have e0 := hSw.cell 0; have e1 := hSw.cell 1; have e2 := hSw.cell 2; have el := hSw.lt; simp at e0 e1 e2; go_simp; try with_reducible rfl
          simp only [Act.put, List.getElem_toArray, List.getElem_cons_zero, List.getElem_cons_succ, List.setIfInBounds_toArray, List.set_cons_zero, List.set_cons_succ]
          refine wpAnyN_take (i := 5) (v := ?vy6) rfl (by kernel_rfl) (by kernel_rfl) (by kernel_rfl) (by kernel_rfl) (fun _ _ _ h => h) (Or.inl ⟨by rfl, ?hyy6⟩) (by assumption) ?_
          case hyy6 => intro w hSw; have e0 := hSw.cell 0; have e1 := hSw.cell 1; have e2 := hSw.cell 2; have el := hSw.lt; simp at e0 e1 e2; go_simp; try with_reducible rfl
          simp only [Act.put, List.getElem_toArray, List.getElem_cons_zero, List.getElem_cons_succ, List.setIfInBounds_toArray, List.set_cons_zero, List.set_cons_succ]
          refine wpAnyN_take (i := 6) (v := ?vy7) rfl (by kernel_rfl) (by kernel_rfl) (by kernel_rfl) (by kernel_rfl) (fun _ _ _ h => h) (Or.inl ⟨by rfl, ?hyy7⟩) (by assumption) ?_
          case hyy7 => intro w hSw; have e0 := hSw.cell 0; have e1 := hSw.cell 1; have e2 := hSw.cell 2; have el := hSw.lt; simp at e0 e1 e2; go_simp; try with_reducible rfl
          simp only [Act.put, List.getElem_toArray, List.getElem_cons_zero, List.getElem_cons_succ, List.setIfInBounds_toArray, List.set_cons_zero, List.set_cons_succ]
          refine wpAnyN_one (i := 7) (by kernel_rfl) rfl (fun K hK => ?_)
          simp only [List.getElem_toArray, List.getElem_cons_zero, List.getElem_cons_succ]
          go_simp
          have hH := Height_any X0 H0.out hnc
          rw [HN.out] at hH
          refine hH.mono ?_
          rintro e w2 ⟨rfl, hb2⟩
          have H2 := Lib.hid (H0.out.next hb2)
          have HB2 := Lib.hid (bNext HB0.out hb2)
          have hS2 : (fun w' => Blk w' p 25 #[.slice (some ⟨gb, 0, none⟩) s.envs.length cap, .int .i64 ((n : Int) + 1), .slice A' s.chs.length c']) w2 := hk0.next hb2
          clear hb2 hH
          refine hK _ _ (fun _ => hS2) ?_
          (try simp only [Act.put, List.setIfInBounds_toArray, List.set_cons_zero, List.set_cons_succ])
          refine wpAnyN_take (i := 8) (v := ?vy8) rfl (by kernel_rfl) (by kernel_rfl) (by kernel_rfl) (by kernel_rfl) (fun _ _ _ h => h) (Or.inl ⟨by rfl, ?hyy8⟩) (by assumption) ?_
          case hyy8 => intro w hSw; have e0 := hSw.cell 0; have e1 := hSw.cell 1; have e2 := hSw.cell 2; have el := hSw.lt; simp at e0 e1 e2; go_simp; try with_reducible rfl
          simp only [Act.put, List.getElem_toArray, List.getElem_cons_zero, List.getElem_cons_succ, List.setIfInBounds_toArray, List.set_cons_zero, List.set_cons_succ]
          refine wpAnyN_done (by kernel_rfl) ?_ _
          have hyr2 := own_stay (w' := w2) HYR.out fun k hk => HB2.out.block k (HYR.out.lt k hk).2
          have k3x : w2.cell? ⟨gb, n * 4 + 3, none⟩ = some (.slice Ay x.y.length cy) := (HB2.out.cell (p := ⟨gb, n * 4 + 3, none⟩) hgl).trans k3
          have he : (Value.slice Ay m cy).ownBlock = (Value.slice Ay x.y.length cy).ownBlock := by cases Ay <;> rfl
          have hyc := own_cut hyr2 hml
          rw [cCs_take] at hyc
          have hset := H2.out.setEn (y := x.y.take m) hx hyv he (by rw [List.length_take, Nat.min_eq_left hml]; exact hyc)
          have HSET := Lib.hid hset.1
          have HE := Lib.hid he
          have fg := H2.out.envs.frozenAt (n * 4 + 3)
          have gl := (H2.out.envs.lt gb rfl).2
          clear hset he hyc hyr2 c0 c1 c2 k0 k1 k2 k3
          go_wp2_with fail
          go_ret
          exact ⟨rfl, ⟨_, _, _, _, HSET.out, fun g' hg' => .inl (by rw [foot_set hyv HE.out] at hg'; exact hg')⟩, (Kept.below HB2.out).trans (Kept.upd ((Upd.refl gb _).set _ _) envs_mem)⟩
        · rw [if_neg hpr]
          have hpr2 : decide (protV s < (n : Int) + 1) = false := by rw [← HN.out]; exact decide_eq_false hpr
          clear hpr
          go_enter Try.func45, Try.ntmps45
          go_wp2_with fail
          go_quiet (fail)
          go_upto_region 8 with fail
          obtain ⟨w1, HW1⟩ : ∃ X, Hid (X = w.drewN nq) := ⟨_, rfl⟩
          rw [← HW1.out]
          have hb1 : Below w.heap.size w w1 := by rw [HW1.out]; exact bDrewN (Below.refl _ _) _
          obtain ⟨X0, HX⟩ : ∃ X, Hid (X = w1.drew) := ⟨_, rfl⟩
          have hd0 : Below w1.heap.size w1 X0 := by rw [HX.out]; exact bDrew w1
          have HB0 := Lib.hid (bNext hb1 hd0)
          have H0 := Lib.hid (H.out.next HB0.out)
          have hk0 := H0.out.box
          rw [HN.out] at hk0
          refine wp_region_N (fun w' => Blk w' p 25 #[.slice (some ⟨gb, 0, none⟩) s.envs.length cap, .int .i64 ((n : Int) + 1), .slice A' s.chs.length c']) (fun _ => true) (by kernel_rfl) ?_
          rw [← HX.out]
          have hS0 : (fun w' => Blk w' p 25 #[.slice (some ⟨gb, 0, none⟩) s.envs.length cap, .int .i64 ((n : Int) + 1), .slice A' s.chs.length c']) X0 := hk0
          clear HX HW1 hb1 hd0
          refine wpAnyN_take (i := 0) (v := ?v1) rfl (by kernel_rfl) (by kernel_rfl) (by kernel_rfl) (by kernel_rfl) (fun _ _ _ h => h) (Or.inl ⟨by rfl, ?hy1⟩) (by assumption) ?_
          case hy1 => intro w hSw; have e0 := hSw.cell 0; have e1 := hSw.cell 1; have e2 := hSw.cell 2; have el := hSw.lt; simp at e0 e1 e2; go_simp; try with_reducible rfl
          simp only [Act.put, List.getElem_toArray, List.getElem_cons_zero, List.setIfInBounds_toArray, List.set_cons_zero, List.set_cons_succ]
          refine wpAnyN_take (i := 1) (v := ?v2) rfl (by kernel_rfl) (by kernel_rfl) (by kernel_rfl) (by kernel_rfl) (fun _ _ _ h => h) (Or.inl ⟨by rfl, ?hy2⟩) (by assumption) ?_
          case hy2 => intro w hSw; have e0 := hSw.cell 0; have e1 := hSw.cell 1; have e2 := hSw.cell 2; have el := hSw.lt; simp at e0 e1 e2; go_simp; try with_reducible rfl
          simp only [Act.put, List.getElem_toArray, List.getElem_cons_zero, List.getElem_cons_succ, List.setIfInBounds_toArray, List.set_cons_zero, List.set_cons_succ]
          refine wpAnyN_take (i := 2) (v := ?v3) rfl (by kernel_rfl) (by kernel_rfl) (by kernel_rfl) (by kernel_rfl) (fun _ _ _ h => h) (Or.inl ⟨by rfl, ?hy3⟩) (by assumption) ?_
          case hy3 => intro w hSw; have e0 := hSw.cell 0; have e1 := hSw.cell 1; have e2 := hSw.cell 2; have el := hSw.lt; simp at e0 e1 e2; go_simp; try with_reducible rfl
          simp only [Act.put, List.getElem_toArray, List.getElem_cons_zero, List.getElem_cons_succ, List.setIfInBounds_toArray, List.set_cons_zero, List.set_cons_succ]
          refine wpAnyN_take (i := 3) (v := ?v4) rfl (by kernel_rfl) (by kernel_rfl) (by kernel_rfl) (by kernel_rfl) (fun _ _ _ h => h) (Or.inl ⟨by rfl, ?hy4⟩) (by assumption) ?_
          case hy4 => intro w hSw; have e0 := hSw.cell 0; have e1 := hSw.cell 1; have e2 := hSw.cell 2; have el := hSw.lt; simp at e0 e1 e2; go_simp; try with_reducible rfl
          simp only [Act.put, List.getElem_toArray, List.getElem_cons_zero, List.getElem_cons_succ, List.setIfInBounds_toArray, List.set_cons_zero, List.set_cons_succ]
          refine wpAnyN_take (i := 4) (v := ?v5) rfl (by kernel_rfl) (by kernel_rfl) (by kernel_rfl) (by kernel_rfl) (fun _ _ _ h => h) (Or.inl ⟨by rfl, ?hy5⟩) (by assumption) ?_
          case hy5 => intro w hSw; have e0 := hSw.cell 0; have e1 := hSw.cell 1; have e2 := hSw.cell 2; have el := hSw.lt; simp at e0 e1 e2; go_simp; try with_reducible rfl
          simp only [Act.put, List.getElem_toArray, List.getElem_cons_zero, List.getElem_cons_succ, List.setIfInBounds_toArray, List.set_cons_zero, List.set_cons_succ]
          refine wpAnyN_take (i := 5) (v := ?v6) rfl (by kernel_rfl) (by kernel_rfl) (by kernel_rfl) (by kernel_rfl) (fun _ _ _ h => h) (Or.inl ⟨by rfl, ?hy6⟩) (by assumption) ?_
          case hy6 => intro w hSw; have e0 := hSw.cell 0; have e1 := hSw.cell 1; have e2 := hSw.cell 2; have el := hSw.lt; simp at e0 e1 e2; go_simp; try with_reducible rfl
          simp only [Act.put, List.getElem_toArray, List.getElem_cons_zero, List.getElem_cons_succ, List.setIfInBounds_toArray, List.set_cons_zero, List.set_cons_succ]
          refine wpAnyN_take (i := 6) (v := ?v7) rfl (by kernel_rfl) (by kernel_rfl) (by kernel_rfl) (by kernel_rfl) (fun _ _ _ h => h) (Or.inl ⟨by rfl, ?hy7⟩) (by assumption) ?_
          case hy7 => intro w hSw; have e0 := hSw.cell 0; have e1 := hSw.cell 1; have e2 := hSw.cell 2; have el := hSw.lt; simp at e0 e1 e2; go_simp; try with_reducible rfl
          simp only [Act.put, List.getElem_toArray, List.getElem_cons_zero, List.getElem_cons_succ, List.setIfInBounds_toArray, List.set_cons_zero, List.set_cons_succ]
          refine wpAnyN_one (i := 7) (by kernel_rfl) rfl (fun K hK => ?_)
          simp only [List.getElem_toArray, List.getElem_cons_zero, List.getElem_cons_succ]
          go_simp
          have hH := Height_any X0 H0.out hnc
          rw [HN.out] at hH
          refine hH.mono ?_
          rintro e w2 ⟨rfl, hb2⟩
          have H2 := Lib.hid (H0.out.next hb2)
          have HB2 := Lib.hid (bNext HB0.out hb2)
          have hS2 : (fun w' => Blk w' p 25 #[.slice (some ⟨gb, 0, none⟩) s.envs.length cap, .int .i64 ((n : Int) + 1), .slice A' s.chs.length c']) w2 := hk0.next hb2
          clear hb2 hH
          refine hK _ _ (fun _ => hS2) ?_
          (try simp only [Act.put, List.setIfInBounds_toArray, List.set_cons_zero, List.set_cons_succ])
          refine wpAnyN_take (i := 8) (v := ?v8) rfl (by kernel_rfl) (by kernel_rfl) (by kernel_rfl) (by kernel_rfl) (fun _ _ _ h => h) (Or.inl ⟨by rfl, ?hy8⟩) (by assumption) ?_
          case hy8 => intro w hSw; have e0 := hSw.cell 0; have e1 := hSw.cell 1; have e2 := hSw.cell 2; have el := hSw.lt; simp at e0 e1 e2; go_simp; try with_reducible rfl
          simp only [Act.put, List.getElem_toArray, List.getElem_cons_zero, List.getElem_cons_succ, List.setIfInBounds_toArray, List.set_cons_zero, List.set_cons_succ]
          refine wpAnyN_done (by kernel_rfl) ?_ _
          clear c0 c1 c2 k0 k1 k2 k3
          go_wp2_with fail
          go_ret
          exact ⟨rfl, ⟨_, _, _, _, H2.out, fun g hg => .inl hg⟩, Kept.below HB2.out⟩
  · have hv : trimV s t = .error 5 := by unfold trimV curN; rw [if_neg hc]
    rw [hv]
    obtain ⟨c0, c1, c2⟩ := h.cells
    rw [show s.e = 0 by omega] at c1
    have H := Lib.hid h
    clear h g hc
    go_enter Try.func45, Try.ntmps45
    go_wp2_with fail
    go_ret
    exact ⟨rfl, ⟨_, _, _, _, H.out, fun g hg => .inl hg⟩, Kept.refl _ _⟩
end
end Go.Proofs.Ytpkpffnabcgcbaa
