/-
  The reference's Allocate.
-/
import Derived.Test.YtpkpffnabcgcbaaPj
import Derived.Test.YtpkpffnabcgcbaaVb
import Derived.Test.YtpkpffnabcgcbaaRegT
namespace Go.Proofs.Ytpkpffnabcgcbaa
open Go.RowKit

theorem own_rowIn {w : World} {B t size n c : Nat} {A : Option Addr} {xs : List Value} (h : w.ownsRow B t size (.slice A n c) n xs) : RowIn w A xs := fun ad ha j u hj => by
  subst ha
  rcases h.2 with ⟨e, _⟩ | ⟨g, cap, cur, e, _⟩
  · cases e
  · injection e with e1 _ e2
    injection e1 with e1
    subst e1 e2
    have h2 := own_cell h hj
    rw [← h2]
    congr 1
    cases j <;> simp [Addr.add]
theorem eCs_one : ∀ {l : List En} {vs : List Value}, (∀ v ∈ vs, v.oneCell' = true) → ∀ u ∈ eCs l vs, u.oneCell' = true
  | [], _, _, u, hu => by simp [eCs] at hu
  | _ :: _, [], _, u, hu => by simp [eCs] at hu
  | x :: l, v :: vs, h, u, hu => by
    simp only [eCs, List.mem_cons] at hu
    rcases hu with rfl | rfl | rfl | rfl | hu
    · rfl
    · rfl
    · rfl
    · exact h _ List.mem_cons_self
    · exact eCs_one (fun z hz => h z (List.mem_cons_of_mem _ hz)) u hu
theorem Stk.ys_one {w : World} {B p : Nat} {s : St} {ve vc : Value} {ys : List Value} {cs : List (Value × Value)} (h : Stk w B p s ve vc ys cs) : ∀ v ∈ ys, v.oneCell' = true := fun v hv => by
  obtain ⟨i, hi⟩ := List.mem_iff_getElem?.1 hv
  have hl := (List.getElem?_eq_some_iff.1 hi).1
  obtain ⟨A, c, e, -⟩ := own_form (h.yrow i _ v (List.getElem?_eq_getElem (by rw [← h.ylen]; exact hl)) hi)
  rw [e]
  rfl
theorem rep_more (k : Nat) : cCs (List.replicate k ⟨1, 0⟩) ++ [.int .i64 1, .int .i64 0] = cCs (List.replicate (k + 1) ⟨1, 0⟩) := by
  rw [List.replicate_succ', cCs_app]
  rfl
set_option maxHeartbeats 8000000 in
theorem Alloc_any {B p : Nat} {s : St} {ve vc : Value} {ys : List Value} {cs : List (Value × Value)} (n id pc : Int) (w : World) (h : Stk w B p s ve vc ys cs) (G : Good s) :
    Calls Try.prog 43 #[.pointer (some ⟨p, 0, none⟩), .int .i64 n, .int .i64 id, .int .i64 pc] w (RetP B p (foot p ve vc ys cs) (.int .i64 (errOf (allocV s n id pc))) (stOf s (allocV s n id pc)) w) := by
  obtain ⟨i1, hi1, hz1, hy1, hb1'⟩ := info_parts info54
  obtain ⟨i0, hi0, hz0, hy0, hb0'⟩ := info_parts info38
  have hn := G.sized.envs
  have hnc := G.sized.chs
  have hBw : B ≤ w.heap.size := Nat.le_of_lt (Nat.lt_of_le_of_lt h.low h.box.lt)
  have HFL := Lib.hid h.foot_lt
  obtain ⟨A', c', rfl, hcap'⟩ := own_form h.chs
  obtain ⟨A, c, rfl, hcap⟩ := own_form h.envs
  have H := Lib.hid h
  have hcc := hcap.1
  have hp := h.box.lt
  clear h
  by_cases h1 : n < 0
  · have hv : allocV s n id pc = .error 1 := by unfold allocV; rw [if_pos (.inl h1)]
    rw [hv]
    go_enter Try.func43, Try.ntmps43
    go_wp2_with fail
    go_ret
    exact ⟨rfl, ⟨_, _, _, _, H.out, fun g hg => .inl hg⟩, Kept.refl _ _⟩
  by_cases h2 : 4096 < n
  · have hv : allocV s n id pc = .error 1 := by unfold allocV; rw [if_pos (.inr (.inl h2))]
    rw [hv]
    go_enter Try.func43, Try.ntmps43
    go_wp2_with fail
    go_ret
    exact ⟨rfl, ⟨_, _, _, _, H.out, fun g hg => .inl hg⟩, Kept.refl _ _⟩
  by_cases h3 : pc < 0
  · have hv : allocV s n id pc = .error 1 := by unfold allocV; rw [if_pos (.inr (.inr h3))]
    rw [hv]
    go_enter Try.func43, Try.ntmps43
    go_wp2_with fail
    go_ret
    exact ⟨rfl, ⟨_, _, _, _, H.out, fun g hg => .inl hg⟩, Kept.refl _ _⟩
  obtain ⟨N, rfl⟩ : ∃ N : Nat, n = (N : Int) := ⟨n.toNat, by omega⟩
  have hN : N ≤ 4096 := by omega
  have hhigh := G.high
  have hav : allocV s (N : Int) id pc = if 1048576 ≤ s.envs.length then .error 13 else .ok ⟨s.envs ++ [⟨s.e, id, pc, List.replicate N ⟨1, 0⟩⟩], (s.envs.length : Int) + 1, s.chs⟩ := by
    unfold allocV
    rw [if_neg (by omega), G.keep, List.take_length, ← hhigh, Int.toNat_natCast]
    by_cases hf : 1048576 ≤ s.envs.length
    · rw [if_pos (by omega), if_pos hf]
    · rw [if_neg (by omega), if_neg hf]
  rw [hav]
  have HHI := Lib.hid hhigh
  clear hav hhigh
  have hd0 : Below w.heap.size w w.drew := bDrew w
  by_cases hf : 1048576 ≤ s.envs.length
  · rw [if_pos hf]
    have hfi : (1048576 : Int) ≤ (s.envs.length : Int) := by omega
    go_enter Try.func43, Try.ntmps43
    go_upto_region 3 with fail
    obtain ⟨X0, HX⟩ : ∃ X, Hid (X = w.drew) := ⟨_, rfl⟩
    rw [← HX.out] at hd0
    have H0 := Lib.hid (H.out.next hd0)
    have HB0 := Lib.hid hd0
    refine wp_region_N (fun w' => Blk w' p 25 #[.slice A s.envs.length c, .int .i64 s.e, .slice A' s.chs.length c']) (fun _ => true) (by kernel_rfl) ?_
    rw [← HX.out]
    clear HX hd0
    have hS0 : (fun w' => Blk w' p 25 #[.slice A s.envs.length c, .int .i64 s.e, .slice A' s.chs.length c']) X0 := H0.out.box
    refine wpAnyN_take (i := 0) (v := ?v1) rfl (by kernel_rfl) (by kernel_rfl) (by kernel_rfl) (by kernel_rfl) (fun _ _ _ h => h) (Or.inl ⟨by rfl, ?hy1⟩) (by assumption) ?_
    case hy1 => intro w hSw; have e0 := hSw.cell 0; have e1 := hSw.cell 1; have e2 := hSw.cell 2; have el := hSw.lt; simp at e0 e1 e2; go_simp; try with_reducible rfl
    simp only [Act.put, List.getElem_toArray, List.getElem_cons_zero, List.setIfInBounds_toArray, List.set_cons_zero, List.set_cons_succ]
    refine wpAnyN_take (i := 1) (v := ?v2) rfl (by kernel_rfl) (by kernel_rfl) (by kernel_rfl) (by kernel_rfl) (fun _ _ _ h => h) (Or.inl ⟨by rfl, ?hy2⟩) (by assumption) ?_
    case hy2 => intro w hSw; have e0 := hSw.cell 0; have e1 := hSw.cell 1; have e2 := hSw.cell 2; have el := hSw.lt; simp at e0 e1 e2; go_simp; try with_reducible rfl
    simp only [Act.put, List.getElem_toArray, List.getElem_cons_zero, List.getElem_cons_succ, List.setIfInBounds_toArray, List.set_cons_zero, List.set_cons_succ]
    refine wpAnyN_take (i := 2) (v := ?v3) rfl (by kernel_rfl) (by kernel_rfl) (by kernel_rfl) (by kernel_rfl) (fun _ _ _ h => h) (Or.inl ⟨by rfl, ?hy3⟩) (by assumption) ?_
    case hy3 => intro w hSw; have e0 := hSw.cell 0; have e1 := hSw.cell 1; have e2 := hSw.cell 2; have el := hSw.lt; simp at e0 e1 e2; go_simp; try with_reducible rfl
    simp only [Act.put, List.getElem_toArray, List.getElem_cons_zero, List.getElem_cons_succ, List.setIfInBounds_toArray, List.set_cons_zero, List.set_cons_succ]
    refine wpAnyN_take (i := 3) (v := ?v4) rfl (by kernel_rfl) (by kernel_rfl) (by kernel_rfl) (by kernel_rfl) (fun _ _ _ h => h) (Or.inl ⟨by rfl, ?hy4⟩) (by assumption) ?_
    case hy4 => intro w hSw; have e0 := hSw.cell 0; have e1 := hSw.cell 1; have e2 := hSw.cell 2; have el := hSw.lt; simp at e0 e1 e2; go_simp; try with_reducible rfl
    simp only [Act.put, List.getElem_toArray, List.getElem_cons_zero, List.getElem_cons_succ, List.setIfInBounds_toArray, List.set_cons_zero, List.set_cons_succ]
    refine wpAnyN_take (i := 4) (v := ?v5) rfl (by kernel_rfl) (by kernel_rfl) (by kernel_rfl) (by kernel_rfl) (fun _ _ _ h => h) (Or.inl ⟨by rfl, ?hy5⟩) (by assumption) ?_
    case hy5 => intro w hSw; have e0 := hSw.cell 0; have e1 := hSw.cell 1; have e2 := hSw.cell 2; have el := hSw.lt; simp at e0 e1 e2; go_simp; try with_reducible rfl
    simp only [Act.put, List.getElem_toArray, List.getElem_cons_zero, List.getElem_cons_succ, List.setIfInBounds_toArray, List.set_cons_zero, List.set_cons_succ]
    refine wpAnyN_take (i := 5) (v := ?v6) rfl (by kernel_rfl) (by kernel_rfl) (by kernel_rfl) (by kernel_rfl) (fun _ _ _ h => h) (Or.inl ⟨by rfl, ?hy6⟩) (by assumption) ?_
    case hy6 => intro w hSw; have e0 := hSw.cell 0; have e1 := hSw.cell 1; have e2 := hSw.cell 2; have el := hSw.lt; simp at e0 e1 e2; go_simp; try with_reducible rfl
    simp only [Act.put, List.getElem_toArray, List.getElem_cons_zero, List.getElem_cons_succ, List.setIfInBounds_toArray, List.set_cons_zero, List.set_cons_succ]
    refine wpAnyN_take (i := 6) (v := ?v7) rfl (by kernel_rfl) (by kernel_rfl) (by kernel_rfl) (by kernel_rfl) (fun _ _ _ h => h) (Or.inl ⟨by rfl, ?hy7⟩) (by assumption) ?_
    case hy7 => intro w hSw; have e0 := hSw.cell 0; have e1 := hSw.cell 1; have e2 := hSw.cell 2; have el := hSw.lt; simp at e0 e1 e2; go_simp; try with_reducible rfl
    simp only [Act.put, List.getElem_toArray, List.getElem_cons_zero, List.getElem_cons_succ, List.setIfInBounds_toArray, List.set_cons_zero, List.set_cons_succ]
    refine wpAnyN_one (i := 7) (by kernel_rfl) rfl (fun K hK => ?_)
    simp only [List.getElem_toArray, List.getElem_cons_zero, List.getElem_cons_succ]
    go_simp
    refine (Height_any X0 H0.out hnc).mono ?_
    rintro e w1 ⟨rfl, hb1⟩
    have H1 := Lib.hid (H0.out.next hb1)
    have HB1 := Lib.hid (bNext HB0.out hb1)
    have hS1 : (fun w' => Blk w' p 25 #[.slice A s.envs.length c, .int .i64 s.e, .slice A' s.chs.length c']) w1 := H1.out.box
    clear hb1
    refine hK _ _ (fun _ => hS1) ?_
    (try simp only [Act.put, List.setIfInBounds_toArray, List.set_cons_zero, List.set_cons_succ])
    refine wpAnyN_one (i := 8) (by kernel_rfl) rfl (fun K hK => ?_)
    simp only [List.getElem_toArray, List.getElem_cons_zero, List.getElem_cons_succ]
    go_simp
    refine (greater_any s.e (protV s) w1).mono ?_
    rintro e w2 ⟨rfl, hw2⟩
    obtain rfl := hw2.symm
    rw [← HHI.out]
    refine hK _ _ (fun _ => hS1) ?_
    (try simp only [Act.put, List.setIfInBounds_toArray, List.set_cons_zero, List.set_cons_succ])
    refine wpAnyN_take (i := 9) (v := ?v8) rfl (by kernel_rfl) (by kernel_rfl) (by kernel_rfl) (by kernel_rfl) (fun _ _ _ h => h) (Or.inl ⟨by rfl, ?hy8⟩) (by assumption) ?_
    case hy8 => intro w hSw; have e0 := hSw.cell 0; have e1 := hSw.cell 1; have e2 := hSw.cell 2; have el := hSw.lt; simp at e0 e1 e2; go_simp; try with_reducible rfl
    simp only [Act.put, List.getElem_toArray, List.getElem_cons_zero, List.getElem_cons_succ, List.setIfInBounds_toArray, List.set_cons_zero, List.set_cons_succ]
    refine wpAnyN_done (by kernel_rfl) ?_ _
    have hk1 := H1.out.box
    have c1 := hk1.cell 1
    have pl := hk1.lt
    simp at c1
    clear hk1 hS0 hS1 H0 HB0
    go_wp2_with fail
    go_ret
    exact ⟨rfl, ⟨_, _, _, _, H1.out, fun g hg => .inl hg⟩, Kept.below HB1.out⟩
  · rw [if_neg hf]
    have hfi : ¬ (1048576 : Int) ≤ (s.envs.length : Int) := by omega
    go_enter Try.func43, Try.ntmps43
    go_upto_region 3 with fail
    obtain ⟨X0, HX⟩ : ∃ X, Hid (X = w.drew) := ⟨_, rfl⟩
    rw [← HX.out] at hd0
    have H0 := Lib.hid (H.out.next hd0)
    have HB0 := Lib.hid hd0
    refine wp_region_N (fun w' => Blk w' p 25 #[.slice A s.envs.length c, .int .i64 s.e, .slice A' s.chs.length c']) (fun _ => true) (by kernel_rfl) ?_
    rw [← HX.out]
    clear HX hd0
    have hS0 : (fun w' => Blk w' p 25 #[.slice A s.envs.length c, .int .i64 s.e, .slice A' s.chs.length c']) X0 := H0.out.box
    refine wpAnyN_take (i := 0) (v := ?vy9) rfl (by kernel_rfl) (by kernel_rfl) (by kernel_rfl) (by kernel_rfl) (fun _ _ _ h => h) (Or.inl ⟨by rfl, ?hyy9⟩) (by assumption) ?_
    case hyy9 => intro w hSw; have e0 := hSw.cell 0; have e1 := hSw.cell 1; have e2 := hSw.cell 2; have el := hSw.lt; simp at e0 e1 e2; go_simp; try with_reducible rfl
    simp only [Act.put, List.getElem_toArray, List.getElem_cons_zero, List.setIfInBounds_toArray, List.set_cons_zero, List.set_cons_succ]
    refine wpAnyN_take (i := 1) (v := ?vy10) rfl (by kernel_rfl) (by kernel_rfl) (by kernel_rfl) (by kernel_rfl) (fun _ _ _ h => h) (Or.inl ⟨by rfl, ?hyy10⟩) (by assumption) ?_
    case hyy10 => intro w hSw; have e0 := hSw.cell 0; have e1 := hSw.cell 1; have e2 := hSw.cell 2; have el := hSw.lt; simp at e0 e1 e2; go_simp; try with_reducible rfl
    simp only [Act.put, List.getElem_toArray, List.getElem_cons_zero, List.getElem_cons_succ, List.setIfInBounds_toArray, List.set_cons_zero, List.set_cons_succ]
    refine wpAnyN_take (i := 2) (v := ?vy11) rfl (by kernel_rfl) (by kernel_rfl) (by kernel_rfl) (by kernel_rfl) (fun _ _ _ h => h) (Or.inl ⟨by rfl, ?hyy11⟩) (by assumption) ?_
    case hyy11 => intro w hSw; have e0 := hSw.cell 0; have e1 := hSw.cell 1; have e2 := hSw.cell 2; have el := hSw.lt; simp at e0 e1 e2; go_simp; try with_reducible rfl
    simp only [Act.put, List.getElem_toArray, List.getElem_cons_zero, List.getElem_cons_succ, List.setIfInBounds_toArray, List.set_cons_zero, List.set_cons_succ]
    refine wpAnyN_take (i := 3) (v := ?vy12) rfl (by kernel_rfl) (by kernel_rfl) (by kernel_rfl) (by kernel_rfl) (fun _ _ _ h => h) (Or.inl ⟨by rfl, ?hyy12⟩) (by assumption) ?_
    case hyy12 => intro w hSw; have e0 := hSw.cell 0; have e1 := hSw.cell 1; have e2 := hSw.cell 2; have el := hSw.lt; simp at e0 e1 e2; go_simp; try with_reducible rfl
    simp only [Act.put, List.getElem_toArray, List.getElem_cons_zero, List.getElem_cons_succ, List.setIfInBounds_toArray, List.set_cons_zero, List.set_cons_succ]
    refine wpAnyN_take (i := 4) (v := ?vy13) rfl (by kernel_rfl) (by kernel_rfl) (by kernel_rfl) (by kernel_rfl) (fun _ _ _ h => h) (Or.inl ⟨by rfl, ?hyy13⟩) (by assumption) ?_
    case hyy13 => intro w hSw; have e0 := hSw.cell 0; have e1 := hSw.cell 1; have e2 := hSw.cell 2; have el := hSw.lt; simp at e0 e1 e2; go_simp; try with_reducible rfl
    simp only [Act.put, List.getElem_toArray, List.getElem_cons_zero, List.getElem_cons_succ, List.setIfInBounds_toArray, List.set_cons_zero, List.set_cons_succ]
    refine wpAnyN_take (i := 5) (v := ?vy14) rfl (by kernel_rfl) (by kernel_rfl) (by kernel_rfl) (by kernel_rfl) (fun _ _ _ h => h) (Or.inl ⟨by rfl, ?hyy14⟩) (by assumption) ?_
    case hyy14 => intro w hSw; have e0 := hSw.cell 0; have e1 := hSw.cell 1; have e2 := hSw.cell 2; have el := hSw.lt; simp at e0 e1 e2; go_simp; try with_reducible rfl
    simp only [Act.put, List.getElem_toArray, List.getElem_cons_zero, List.getElem_cons_succ, List.setIfInBounds_toArray, List.set_cons_zero, List.set_cons_succ]
    refine wpAnyN_take (i := 6) (v := ?vy15) rfl (by kernel_rfl) (by kernel_rfl) (by kernel_rfl) (by kernel_rfl) (fun _ _ _ h => h) (Or.inl ⟨by rfl, ?hyy15⟩) (by assumption) ?_
    case hyy15 => intro w hSw; have e0 := hSw.cell 0; have e1 := hSw.cell 1; have e2 := hSw.cell 2; have el := hSw.lt; simp at e0 e1 e2; go_simp; try with_reducible rfl
    simp only [Act.put, List.getElem_toArray, List.getElem_cons_zero, List.getElem_cons_succ, List.setIfInBounds_toArray, List.set_cons_zero, List.set_cons_succ]
    refine wpAnyN_one (i := 7) (by kernel_rfl) rfl (fun K hK => ?_)
    simp only [List.getElem_toArray, List.getElem_cons_zero, List.getElem_cons_succ]
    go_simp
    refine (Height_any X0 H0.out hnc).mono ?_
    rintro e w1 ⟨rfl, hb1⟩
    have H1 := Lib.hid (H0.out.next hb1)
    have HB1 := Lib.hid (bNext HB0.out hb1)
    have hS1 : (fun w' => Blk w' p 25 #[.slice A s.envs.length c, .int .i64 s.e, .slice A' s.chs.length c']) w1 := H1.out.box
    clear hb1
    refine hK _ _ (fun _ => hS1) ?_
    (try simp only [Act.put, List.setIfInBounds_toArray, List.set_cons_zero, List.set_cons_succ])
    refine wpAnyN_one (i := 8) (by kernel_rfl) rfl (fun K hK => ?_)
    simp only [List.getElem_toArray, List.getElem_cons_zero, List.getElem_cons_succ]
    go_simp
    refine (greater_any s.e (protV s) w1).mono ?_
    rintro e w2 ⟨rfl, hw2⟩
    obtain rfl := hw2.symm
    rw [← HHI.out]
    refine hK _ _ (fun _ => hS1) ?_
    (try simp only [Act.put, List.setIfInBounds_toArray, List.set_cons_zero, List.set_cons_succ])
    refine wpAnyN_take (i := 9) (v := ?vy16) rfl (by kernel_rfl) (by kernel_rfl) (by kernel_rfl) (by kernel_rfl) (fun _ _ _ h => h) (Or.inl ⟨by rfl, ?hyy16⟩) (by assumption) ?_
    case hyy16 => intro w hSw; have e0 := hSw.cell 0; have e1 := hSw.cell 1; have e2 := hSw.cell 2; have el := hSw.lt; simp at e0 e1 e2; go_simp; try with_reducible rfl
    simp only [Act.put, List.getElem_toArray, List.getElem_cons_zero, List.getElem_cons_succ, List.setIfInBounds_toArray, List.set_cons_zero, List.set_cons_succ]
    refine wpAnyN_done (by kernel_rfl) ?_ _
    have hk1 := H1.out.box
    have c1 := hk1.cell 1
    have pl := hk1.lt
    simp at c1
    clear hk1 hS0 hS1 H0 HB0
    go_upto_region 7 with fail
    obtain ⟨W2, HW2⟩ : ∃ X, Hid (X = w1.alloc (.cells #[.int .i64 s.e, .int .i64 id, .int .i64 pc, .slice none 0 0] 54)) := ⟨_, rfl⟩
    obtain ⟨q, hq⟩ : ∃ q, Hid (q = w1.heap.size) := ⟨_, rfl⟩
    have hb2 : Below w1.heap.size w1 W2 := by rw [HW2.out]; exact bAlloc _ _
    have hk2 : Blk W2 q 54 #[.int .i64 s.e, .int .i64 id, .int .i64 pc, .slice none 0 0] := by rw [HW2.out, hq.out]; exact Blk.new _ _ _
    rw [← HW2.out]
    try rw [← hq.out]
    have hqw : w.heap.size ≤ q := by rw [hq.out]; exact HB1.out.size
    have HB2 := Lib.hid (bNext HB1.out hb2)
    have HK2 := Lib.hid hk2
    clear HW2 hb2 hk2 c1 pl H1 HB1
    go_wp2_with fail
    go_loopw [11] (fun i wr => ∃ k : Nat, k ≤ N ∧ i = .int .i64 (k : Int) ∧ Hid (Below w.heap.size w wr) ∧ ∃ v, Hid (Blk wr q 54 #[.int .i64 s.e, .int .i64 id, .int .i64 pc, v]) ∧ Hid (wr.ownsRow w.heap.size 38 2 v k (cCs (List.replicate k ⟨1, 0⟩)))) (fun i _ => N - (intOf i).toNat)
    case atStart => exact ⟨0, by omega, rfl, HB2, _, HK2, Lib.hid (World.ownsRow_nil _ _ _ _)⟩
    case round =>
      clear HB2 HK2
      obtain ⟨k, hk, rfl, HI, v, HQ, HV⟩ := hrel
      obtain ⟨Av, av, rfl, -⟩ := own_form HV.out
      by_cases hlt : k < N
      · have g3 := HQ.out.cell 3
        have gl := HQ.out.lt
        simp at g3
        have hkI : (k : Int) < (N : Int) := by omega
        go_wp2_with (at_builtin; refine wpList_append_src rfl _ _ 26 rfl w.heap.size 38 i0 _ 2 16 Try.underlying26 hi0 hz0 hy0 hb0' rfl (by decide) (.slice Av k av) k (cCs (List.replicate k ⟨1, 0⟩)) rfl (HV.out.alloc _) (some ⟨wr.heap.size, 0, none⟩) 1 1 [.int .i64 1, .int .i64 0] rfl ⟨Nat.le_refl _, fun e => by cases e⟩ ?c1 ?c2 ?c3 ?c4 ?c5 ?c6 ?_)
        case c1 => rfl
        case c2 =>
          intro ad ha j u hj
          injection ha with ha
          subst ha
          have e : (⟨wr.heap.size, 0, none⟩ : Addr).add j = ⟨wr.heap.size, j, none⟩ := by cases j <;> simp [Addr.add]
          rw [e]
          exact ((Blk.new wr 38 #[.int .i64 1, .int .i64 0]).cell j).trans (by simpa using hj)
        case c3 =>
          intro u hu
          simp only [List.mem_cons, List.not_mem_nil, or_false] at hu
          rcases hu with rfl | rfl <;> rfl
        case c4 => unfold maxLen; omega
        case c5 => omega
        case c6 => have := HI.out.size; simp; omega
        intro v1 w1 ho1 hg1 hat1
        have hty : ∀ {B' n' : Nat} {w' : World} {u : Value} {xs : List Value} {b : Array Value}, w'.ownsRow B' 38 2 u n' xs → Blk w' q 54 b → u.ownBlock ≠ some q := fun h1 h2 e => by
          obtain ⟨cz, hcz⟩ := own_ty h1 e
          unfold Blk at h2
          rw [hcz] at h2
          injection h2 with t
          injection t with _ t _
          exact absurd t (by decide)
        have kq : Blk w1 q 54 _ := Blk.grown (w := wr.alloc (.cells #[.int .i64 1, .int .i64 0] 38)) (HQ.out.alloc _) hg1 (hty HV.out HQ.out)
        have hbI : Below w.heap.size w w1 := (HI.out.alloc HI.out.size _).grown hg1 (by have := HI.out.size; simp; omega) (fun g hg => (HV.out.lt g hg).1)
        rw [rep_more] at ho1
        obtain ⟨A1, a1, rfl, -⟩ := own_form ho1
        have f3 := kq.frozen 3
        have l3 := kq.lt
        have z3 := kq.cell 3
        simp at z3
        have kq2 := kq.set_ 3 (.slice A1 (k + 1) a1)
        have ho2 := own_stay (w' := w1.setCell ⟨q, 3, none⟩ (.slice A1 (k + 1) a1)) ho1 fun g hg => heap_setCell_other _ _ _ _ (fun e => hty ho1 kq (by rw [hg]; exact congrArg some e))
        have HB2 := Lib.hid (hbI.setCell (p := ⟨q, 3, none⟩) hqw (.slice A1 (k + 1) a1))
        have HK2 := Lib.hid (show Blk (w1.setCell ⟨q, 3, none⟩ (.slice A1 (k + 1) a1)) q 54 #[.int .i64 s.e, .int .i64 id, .int .i64 pc, .slice A1 (k + 1) a1] by simpa using kq2)
        have HO2 := Lib.hid ho2
        clear ho1 hg1 hat1 hty kq hbI kq2 ho2
        have hkw : IntKind.i64.wrap ((k : Int) + 1) = (k : Int) + 1 := by rw [IntKind.wrap_i64]; omega
        go_wp2_with fail
        exact ⟨⟨k + 1, by omega, by go_num, HB2, _, HK2, HO2⟩, by simp [intOf]; omega⟩
      · obtain rfl : k = N := by omega
        have HIX := HI
        have HQX := HQ
        have HVX := HV
        clear HI HQ HV
        go_upto_region 11 with fail
        obtain ⟨X0, HX⟩ : ∃ X, Hid (X = wr.drew) := ⟨_, rfl⟩
        have hd1 : Below wr.heap.size wr X0 := by rw [HX.out]; exact bDrew _
        have HB0 := Lib.hid (bNext HIX.out hd1)
        have HS0 := Lib.hid (H.out.next HB0.out)
        have HQ0 := Lib.hid (HQX.out.next hd1)
        have HV0 := Lib.hid (own_stay (w' := X0) HVX.out fun j hj => hd1.block j (HVX.out.lt j hj).2)
        clear HIX HQX HVX
        refine wp_region_N (fun w' => Blk w' p 25 #[.slice A s.envs.length c, .int .i64 s.e, .slice A' s.chs.length c'] ∧ Blk w' q 54 #[.int .i64 s.e, .int .i64 id, .int .i64 pc, .slice Av k av]) (fun j => decide (j < 11)) (by kernel_rfl) ?_
        rw [← HX.out]
        clear HX hd1
        have hS0 : (fun w' => Blk w' p 25 #[.slice A s.envs.length c, .int .i64 s.e, .slice A' s.chs.length c'] ∧ Blk w' q 54 #[.int .i64 s.e, .int .i64 id, .int .i64 pc, .slice Av k av]) X0 := ⟨HS0.out.box, HQ0.out⟩
        refine wpAnyN_take (i := 0) (v := ?v17) rfl (by kernel_rfl) (by kernel_rfl) (by kernel_rfl) (by kernel_rfl) (fun _ _ _ h => h) (Or.inl ⟨by rfl, ?hy17⟩) (by assumption) ?_
        case hy17 => intro w hSw; obtain ⟨hsp, hsq⟩ := hSw; have e0 := hsp.cell 0; have e1 := hsp.cell 1; have e2 := hsp.cell 2; have el := hsp.lt; have i0 := hsq.cell 0; have i1 := hsq.cell 1; have i2 := hsq.cell 2; have i3 := hsq.cell 3; simp at e0 e1 e2 i0 i1 i2 i3; go_simp; try with_reducible rfl
        simp only [Act.put, List.getElem_toArray, List.getElem_cons_zero, List.setIfInBounds_toArray, List.set_cons_zero, List.set_cons_succ]
        refine wpAnyN_take (i := 1) (v := ?v18) rfl (by kernel_rfl) (by kernel_rfl) (by kernel_rfl) (by kernel_rfl) (fun _ _ _ h => h) (Or.inl ⟨by rfl, ?hy18⟩) (by assumption) ?_
        case hy18 => intro w hSw; obtain ⟨hsp, hsq⟩ := hSw; have e0 := hsp.cell 0; have e1 := hsp.cell 1; have e2 := hsp.cell 2; have el := hsp.lt; have i0 := hsq.cell 0; have i1 := hsq.cell 1; have i2 := hsq.cell 2; have i3 := hsq.cell 3; simp at e0 e1 e2 i0 i1 i2 i3; go_simp; try with_reducible rfl
        simp only [Act.put, List.getElem_toArray, List.getElem_cons_zero, List.getElem_cons_succ, List.setIfInBounds_toArray, List.set_cons_zero, List.set_cons_succ]
        refine wpAnyN_take (i := 2) (v := ?v19) rfl (by kernel_rfl) (by kernel_rfl) (by kernel_rfl) (by kernel_rfl) (fun _ _ _ h => h) (Or.inl ⟨by rfl, ?hy19⟩) (by assumption) ?_
        case hy19 => intro w hSw; obtain ⟨hsp, hsq⟩ := hSw; have e0 := hsp.cell 0; have e1 := hsp.cell 1; have e2 := hsp.cell 2; have el := hsp.lt; have i0 := hsq.cell 0; have i1 := hsq.cell 1; have i2 := hsq.cell 2; have i3 := hsq.cell 3; simp at e0 e1 e2 i0 i1 i2 i3; go_simp; try with_reducible rfl
        simp only [Act.put, List.getElem_toArray, List.getElem_cons_zero, List.getElem_cons_succ, List.setIfInBounds_toArray, List.set_cons_zero, List.set_cons_succ]
        refine wpAnyN_take (i := 3) (v := ?v20) rfl (by kernel_rfl) (by kernel_rfl) (by kernel_rfl) (by kernel_rfl) (fun _ _ _ h => h) (Or.inl ⟨by rfl, ?hy20⟩) (by assumption) ?_
        case hy20 => intro w hSw; obtain ⟨hsp, hsq⟩ := hSw; have e0 := hsp.cell 0; have e1 := hsp.cell 1; have e2 := hsp.cell 2; have el := hsp.lt; have i0 := hsq.cell 0; have i1 := hsq.cell 1; have i2 := hsq.cell 2; have i3 := hsq.cell 3; simp at e0 e1 e2 i0 i1 i2 i3; go_simp; try with_reducible rfl
        simp only [Act.put, List.getElem_toArray, List.getElem_cons_zero, List.getElem_cons_succ, List.setIfInBounds_toArray, List.set_cons_zero, List.set_cons_succ]
        refine wpAnyN_take (i := 4) (v := ?v21) rfl (by kernel_rfl) (by kernel_rfl) (by kernel_rfl) (by kernel_rfl) (fun _ _ _ h => h) (Or.inl ⟨by rfl, ?hy21⟩) (by assumption) ?_
        case hy21 => intro w hSw; obtain ⟨hsp, hsq⟩ := hSw; have e0 := hsp.cell 0; have e1 := hsp.cell 1; have e2 := hsp.cell 2; have el := hsp.lt; have i0 := hsq.cell 0; have i1 := hsq.cell 1; have i2 := hsq.cell 2; have i3 := hsq.cell 3; simp at e0 e1 e2 i0 i1 i2 i3; go_simp; try with_reducible rfl
        simp only [Act.put, List.getElem_toArray, List.getElem_cons_zero, List.getElem_cons_succ, List.setIfInBounds_toArray, List.set_cons_zero, List.set_cons_succ]
        refine wpAnyN_take (i := 5) (v := ?v22) rfl (by kernel_rfl) (by kernel_rfl) (by kernel_rfl) (by kernel_rfl) (fun _ _ _ h => h) (Or.inl ⟨by rfl, ?hy22⟩) (by assumption) ?_
        case hy22 => intro w hSw; obtain ⟨hsp, hsq⟩ := hSw; have e0 := hsp.cell 0; have e1 := hsp.cell 1; have e2 := hsp.cell 2; have el := hsp.lt; have i0 := hsq.cell 0; have i1 := hsq.cell 1; have i2 := hsq.cell 2; have i3 := hsq.cell 3; simp at e0 e1 e2 i0 i1 i2 i3; go_simp; try with_reducible rfl
        simp only [Act.put, List.getElem_toArray, List.getElem_cons_zero, List.getElem_cons_succ, List.setIfInBounds_toArray, List.set_cons_zero, List.set_cons_succ]
        refine wpAnyN_take (i := 6) (v := ?v23) rfl (by kernel_rfl) (by kernel_rfl) (by kernel_rfl) (by kernel_rfl) (fun _ _ _ h => h) (Or.inl ⟨by rfl, ?hy23⟩) (by assumption) ?_
        case hy23 => intro w hSw; obtain ⟨hsp, hsq⟩ := hSw; have e0 := hsp.cell 0; have e1 := hsp.cell 1; have e2 := hsp.cell 2; have el := hsp.lt; have i0 := hsq.cell 0; have i1 := hsq.cell 1; have i2 := hsq.cell 2; have i3 := hsq.cell 3; simp at e0 e1 e2 i0 i1 i2 i3; go_simp; try with_reducible rfl
        simp only [Act.put, List.getElem_toArray, List.getElem_cons_zero, List.getElem_cons_succ, List.setIfInBounds_toArray, List.set_cons_zero, List.set_cons_succ]
        refine wpAnyN_take (i := 8) (v := ?v24) rfl (by kernel_rfl) (by kernel_rfl) (by kernel_rfl) (by kernel_rfl) (fun _ _ _ h => h) (Or.inl ⟨by rfl, ?hy24⟩) (by assumption) ?_
        case hy24 => intro w hSw; obtain ⟨hsp, hsq⟩ := hSw; have e0 := hsp.cell 0; have e1 := hsp.cell 1; have e2 := hsp.cell 2; have el := hsp.lt; have i0 := hsq.cell 0; have i1 := hsq.cell 1; have i2 := hsq.cell 2; have i3 := hsq.cell 3; simp at e0 e1 e2 i0 i1 i2 i3; go_simp; try with_reducible rfl
        simp only [Act.put, List.getElem_toArray, List.getElem_cons_zero, List.getElem_cons_succ, List.setIfInBounds_toArray, List.set_cons_zero, List.set_cons_succ]
        refine wpAnyN_two (i := 7) (j := 9) (by kernel_rfl) rfl rfl (fun K1 hK1 => ?_) (fun K1 hK1 => ?_)
        · simp only [List.getElem_toArray, List.getElem_cons_zero, List.getElem_cons_succ]
          rw [if_pos (by rfl)]
          refine wp_append_src (.const (.slice none 0 0)) (.tmp 61) 22 rfl X0.heap.size 54 i1 _ 4 48 Try.underlying22 hi1 hz1 hy1 hb1' rfl (by decide) (.slice none 0 0) 0 [] rfl (World.ownsRow_nil _ _ _ _) A s.envs.length c (eCs s.envs ys) rfl hcap ?a1 ?a2 ?a3 ?a4 ?a5 ?a6 ?_
          case a1 => rw [eCs_len _ _ HS0.out.ylen]
          case a2 => exact own_rowIn HS0.out.envs
          case a3 => exact eCs_one HS0.out.ys_one
          case a4 => unfold maxLen; omega
          case a5 => omega
          case a6 => simp
          intro v1 w1 ho1 hg1 hat1
          rw [Nat.zero_add, List.nil_append] at ho1
          have hb1 : Below X0.heap.size X0 w1 := (Below.refl _ _).grown hg1 (Nat.le_refl _) (fun j hj => by cases hj)
          refine hK1 _ _ (fun _ => ⟨hS0.1.next hb1, hS0.2.next hb1⟩) ?_
          (try simp only [Act.put, List.setIfInBounds_toArray, List.set_cons_zero, List.set_cons_succ])
          refine wpAnyN_one (i := 9) (by kernel_rfl) rfl (fun K2 hK2 => ?_)
          simp only [List.getElem_toArray, List.getElem_cons_zero, List.getElem_cons_succ]
          go_simp
          refine hK2 _ _ (fun _ => ⟨(hS0.1.next hb1).alloc _, (hS0.2.next hb1).alloc _⟩) ?_
          (try simp only [Act.put, List.setIfInBounds_toArray, List.set_cons_zero, List.set_cons_succ])
          have HBN := Lib.hid (bNext hb1 (bAlloc w1 (.cells #[.int .i64 s.e, .int .i64 id, .int .i64 pc, .slice Av k av] 54)))
          have HO1 := Lib.hid (ho1.alloc (.cells #[.int .i64 s.e, .int .i64 id, .int .i64 pc, .slice Av k av] 54))
          have KG := Lib.hid (Blk.new w1 54 #[.int .i64 s.e, .int .i64 id, .int .i64 pc, .slice Av k av])
          obtain ⟨Wn, HWn⟩ : ∃ X, Hid (X = w1.alloc (.cells #[.int .i64 s.e, .int .i64 id, .int .i64 pc, .slice Av k av] 54)) := ⟨_, rfl⟩
          obtain ⟨gb, hgb⟩ : ∃ g, Hid (g = w1.heap.size) := ⟨_, rfl⟩
          rw [← HWn.out] at HBN HO1 KG ⊢
          rw [← hgb.out] at KG
          try rw [← hgb.out]
          clear HWn hgb
          have hbn : Below X0.heap.size X0 Wn := HBN.out
          obtain ⟨A1, a1, rfl, -⟩ := own_form HO1.out
          refine wpAnyN_one (i := 10) (by kernel_rfl) rfl (fun K hK => ?_)
          simp only [List.getElem_toArray, List.getElem_cons_zero, List.getElem_cons_succ]
          rw [if_pos (by rfl)]
          refine wp_append_lies _ (.tmp 62) (.tmp 64) 22 rfl X0.heap.size 54 i1 _ 4 48 Try.underlying22 hi1 hz1 hy1 hb1' rfl (by decide) (.slice A1 s.envs.length a1) s.envs.length (eCs s.envs ys) rfl HO1.out ⟨gb, 0, none⟩ 1 1 (eCs [⟨s.e, id, pc, List.replicate k ⟨1, 0⟩⟩] [.slice Av k av]) rfl ?c1 ?c2 ?c3 (by omega) ?c4 ?c5 ?c6 _ rfl ?_
          case c1 => rfl
          case c2 =>
            intro i u hi
            have h := KG.out.cell i
            have e : (⟨gb, 0, none⟩ : Addr).add i = ⟨gb, i, none⟩ := by cases i <;> simp [Addr.add]
            rw [e]
            exact h.trans (by simpa [eCs] using hi)
          case c3 =>
            intro u hu
            simp only [eCs, List.mem_cons, List.not_mem_nil, or_false] at hu
            rcases hu with rfl | rfl | rfl | rfl <;> rfl
          case c4 => unfold maxLen; omega
          case c5 => omega
          case c6 => exact hbn.size
          intro gD e8 w8 ho8 hg8 hat8 hlt8
          have hold : ∀ i, i < X0.heap.size → w8.heap[i]? = X0.heap[i]? := fun i hi => (hg8.block i (Nat.lt_of_lt_of_le hi hbn.size) (fun e => by have := (HO1.out.lt i e.symm).1; omega)).trans (hbn.block i hi)
          have k8 : Blk w8 p 25 _ := (hold p HS0.out.box.lt).trans HS0.out.box
          have kq8 : Blk w8 q 54 _ := (hold q HQ0.out.lt).trans HQ0.out
          have f0 := k8.frozen 0
          have g0 := k8.cell 0
          have l8 := k8.lt
          simp at g0
          refine hK _ _ (fun _ => ⟨k8, kq8⟩) ?_
          (try simp only [Act.put, List.setIfInBounds_toArray, List.set_cons_zero, List.set_cons_succ])
          refine wpAnyN_one (i := 11) (by kernel_rfl) rfl (fun K hK => ?_)
          simp only [List.getElem_toArray, List.getElem_cons_zero, List.getElem_cons_succ]
          go_simp
          refine hK _ _ (fun h => absurd h (by decide)) ?_
          (try simp only [Act.put, List.setIfInBounds_toArray, List.set_cons_zero, List.set_cons_succ])
          refine wpAnyN_one (i := 12) (by kernel_rfl) rfl (fun K hK => ?_)
          simp only [List.getElem_toArray, List.getElem_cons_zero, List.getElem_cons_succ]
          go_simp
          refine hK _ _ (fun h => absurd h (by decide)) ?_
          (try simp only [Act.put, List.setIfInBounds_toArray, List.set_cons_zero, List.set_cons_succ])
          refine wpAnyN_one (i := 13) (by kernel_rfl) rfl (fun K hK => ?_)
          simp only [List.getElem_toArray, List.getElem_cons_zero, List.getElem_cons_succ]
          go_simp
          refine hK _ _ (fun h => absurd h (by decide)) ?_
          (try simp only [Act.put, List.setIfInBounds_toArray, List.set_cons_zero, List.set_cons_succ])
          refine wpAnyN_done (by kernel_rfl) ?_ _
          have hbF := k8.set_ 0 (.slice (some ⟨gD, 0, none⟩) (s.envs.length + 1) e8)
          have huF := (Upd.refl p w8).set 0 (.slice (some ⟨gD, 0, none⟩) (s.envs.length + 1) e8)
          obtain ⟨W9, HW9⟩ : ∃ X, Hid (X = w8.setCell ⟨p, 0, none⟩ (.slice (some ⟨gD, 0, none⟩) (s.envs.length + 1) e8)) := ⟨_, rfl⟩
          rw [← HW9.out] at hbF huF ⊢
          clear HW9
          have hz : ∀ i, i < X0.heap.size → i ≠ p → W9.heap[i]? = X0.heap[i]? := fun i h1 h2 => (huF.block i h2).trans (hold i h1)
          have hbF' : Blk W9 p 25 #[.slice (some ⟨gD, 0, none⟩) (s.envs.length + 1) e8, .int .i64 s.e, .slice A' s.chs.length c'] := by simpa using hbF
          have hgD : X0.heap.size ≤ gD := by
            have := (ho8.lt gD rfl).1
            exact this
          have hP := HS0.out.allocated (w' := W9) (x := ⟨s.e, id, pc, List.replicate k ⟨1, 0⟩⟩) (vy := .slice Av k av) (ve' := .slice (some ⟨gD, 0, none⟩) (s.envs.length + 1) e8) (e := s.e) (b := w.heap.size) HFL.out
            (fun v hv j hj => by
              obtain ⟨t, size, l, xs, h1, t1, t2⟩ := HS0.out.typedE hv
              exact hz j (h1.lt j hj).2 (own_ne h1 HS0.out.box t1 hj))
            hbF' (own_base (own_stay ho8 fun j hj => huF.block j (own_ne ho8 k8 (by decide) hj)) (Nat.le_trans hBw HB0.out.size)) (by show W9.ownsRow B 38 2 _ (List.replicate k (⟨1, 0⟩ : Cl)).length _; rw [List.length_replicate]; exact own_base (own_stay HV0.out fun j hj => hz j (HV0.out.lt j hj).2 (own_ne HV0.out HS0.out.box (by decide) hj)) hBw) (fun j hj => (HV0.out.lt j hj).1)
          have hsub : ∀ j ∈ foot p (.slice (some ⟨gD, 0, none⟩) (s.envs.length + 1) e8) (.slice A' s.chs.length c') (ys ++ [.slice Av k av]) cs, j ∈ foot p (.slice A s.envs.length c) (.slice A' s.chs.length c') ys cs ∨ w.heap.size ≤ j := fun j hj => by
            rcases List.mem_cons.1 hj with rfl | hj
            · exact .inl List.mem_cons_self
            · obtain ⟨v, hv, e⟩ := List.mem_filterMap.1 hj
              simp only [List.cons_append, List.mem_cons, List.mem_append, List.not_mem_nil, or_false] at hv
              rcases hv with rfl | rfl | (((hv | rfl) | hv) | hv)
              · have e : gD = j := by simpa [Value.ownBlock] using e
                subst e
                exact .inr (Nat.le_trans HB0.out.size hgD)
              · exact .inl (foot_mem (by simp) e)
              · exact .inl (foot_mem (by simp [hv]) e)
              · exact .inr (HV0.out.lt j e).1
              · exact .inl (foot_mem (List.mem_append_left _ (List.mem_append_right _ hv)) e)
              · exact .inl (foot_mem (List.mem_append_right _ hv) e)
          have hKF : Kept (foot p (.slice A s.envs.length c) (.slice A' s.chs.length c') ys cs) w W9 := by
            refine ⟨huF.os.trans (hg8.os.trans (hbn.os.trans HB0.out.os)), huF.tape.trans (hg8.tape.trans (hbn.tape.trans HB0.out.tape)), huF.output.trans (hg8.output.trans (hbn.output.trans HB0.out.output)), ?_, fun i hi hf => (hz i (Nat.lt_of_lt_of_le hi HB0.out.size) (fun e => hf (e ▸ List.mem_cons_self))).trans (HB0.out.block i hi)⟩
            rw [huF.size]
            exact Nat.le_trans HB0.out.size (Nat.le_trans hbn.size hg8.size)
          have HP := Lib.hid hP
          have HSUB := Lib.hid hsub
          have HKF := Lib.hid hKF
          have c1 := hbF.cell 1
          have fr1 := hbF.frozen 1
          have pl := hbF.lt
          have HBF := Lib.hid hbF
          simp at c1
          have hpw : IntKind.i64.wrap ((s.envs.length : Int) + 1) = (s.envs.length : Int) + 1 := by rw [IntKind.wrap_i64]; omega
          clear hP hKF hsub hz hbF hbF' huF k8 kq8 ho8 hg8 hat8 hlt8 hS0 f0 g0 l8 hold hbn hgD
          go_wp2_with fail
          go_ret
          have huG := (Upd.refl p W9).set 1 (.int .i64 ((s.envs.length : Int) + 1))
          have hbG := HBF.out.set_ 1 (.int .i64 ((s.envs.length : Int) + 1))
          have hPF := HP.out.boxE huG (e := (s.envs.length : Int) + 1) (by simpa using hbG)
          exact ⟨rfl, ⟨_, _, _, _, hPF, HSUB.out⟩, HKF.out.trans (Kept.upd huG List.mem_cons_self)⟩
        · simp only [List.getElem_toArray, List.getElem_cons_zero, List.getElem_cons_succ]
          go_simp
          refine hK1 _ _ (fun _ => ⟨hS0.1.alloc _, hS0.2.alloc _⟩) ?_
          (try simp only [Act.put, List.setIfInBounds_toArray, List.set_cons_zero, List.set_cons_succ])
          refine wpAnyN_one (i := 7) (by kernel_rfl) rfl (fun K2 hK2 => ?_)
          simp only [List.getElem_toArray, List.getElem_cons_zero, List.getElem_cons_succ]
          rw [if_pos (by rfl)]
          refine wp_append_src (.const (.slice none 0 0)) (.tmp 61) 22 rfl X0.heap.size 54 i1 _ 4 48 Try.underlying22 hi1 hz1 hy1 hb1' rfl (by decide) (.slice none 0 0) 0 [] rfl (World.ownsRow_nil _ _ _ _) A s.envs.length c (eCs s.envs ys) rfl hcap ?b1 ?b2 ?b3 ?b4 ?b5 ?b6 ?_
          case b1 => rw [eCs_len _ _ HS0.out.ylen]
          case b2 => exact own_rowIn (HS0.out.envs.alloc _)
          case b3 => exact eCs_one HS0.out.ys_one
          case b4 => unfold maxLen; omega
          case b5 => omega
          case b6 => simp
          intro v1 w1 ho1 hg1 hat1
          rw [Nat.zero_add, List.nil_append] at ho1
          have hbA := bAlloc X0 (.cells #[.int .i64 s.e, .int .i64 id, .int .i64 pc, .slice Av k av] 54)
          have hb1 : Below X0.heap.size X0 w1 := bNext hbA ((Below.refl _ _).grown hg1 (Nat.le_refl _) (fun j hj => by cases hj))
          refine hK2 _ _ (fun _ => ⟨hS0.1.next hb1, hS0.2.next hb1⟩) ?_
          (try simp only [Act.put, List.setIfInBounds_toArray, List.set_cons_zero, List.set_cons_succ])
          have kg1 : Blk w1 X0.heap.size 54 #[.int .i64 s.e, .int .i64 id, .int .i64 pc, .slice Av k av] := Blk.grown (w := X0.alloc (.cells #[.int .i64 s.e, .int .i64 id, .int .i64 pc, .slice Av k av] 54)) (Blk.new X0 54 _) hg1 (fun e => by cases e)
          have HBN := Lib.hid hb1
          have HO1 := Lib.hid ho1
          have KG := Lib.hid kg1
          obtain ⟨Wn, HWn⟩ : ∃ X, Hid (X = w1) := ⟨_, rfl⟩
          obtain ⟨gb, hgb⟩ : ∃ g, Hid (g = X0.heap.size) := ⟨_, rfl⟩
          rw [← HWn.out] at HBN HO1 KG ⊢
          rw [← hgb.out] at KG
          try rw [← hgb.out]
          clear HWn hgb
          have hbn : Below X0.heap.size X0 Wn := HBN.out
          obtain ⟨A1, a1, rfl, -⟩ := own_form HO1.out
          refine wpAnyN_one (i := 10) (by kernel_rfl) rfl (fun K hK => ?_)
          simp only [List.getElem_toArray, List.getElem_cons_zero, List.getElem_cons_succ]
          rw [if_pos (by rfl)]
          refine wp_append_lies _ (.tmp 62) (.tmp 64) 22 rfl X0.heap.size 54 i1 _ 4 48 Try.underlying22 hi1 hz1 hy1 hb1' rfl (by decide) (.slice A1 s.envs.length a1) s.envs.length (eCs s.envs ys) rfl HO1.out ⟨gb, 0, none⟩ 1 1 (eCs [⟨s.e, id, pc, List.replicate k ⟨1, 0⟩⟩] [.slice Av k av]) rfl ?d1 ?d2 ?d3 (by omega) ?d4 ?d5 ?d6 _ rfl ?_
          case d1 => rfl
          case d2 =>
            intro i u hi
            have h := KG.out.cell i
            have e : (⟨gb, 0, none⟩ : Addr).add i = ⟨gb, i, none⟩ := by cases i <;> simp [Addr.add]
            rw [e]
            exact h.trans (by simpa [eCs] using hi)
          case d3 =>
            intro u hu
            simp only [eCs, List.mem_cons, List.not_mem_nil, or_false] at hu
            rcases hu with rfl | rfl | rfl | rfl <;> rfl
          case d4 => unfold maxLen; omega
          case d5 => omega
          case d6 => exact hbn.size
          intro gD e8 w8 ho8 hg8 hat8 hlt8
          have hold : ∀ i, i < X0.heap.size → w8.heap[i]? = X0.heap[i]? := fun i hi => (hg8.block i (Nat.lt_of_lt_of_le hi hbn.size) (fun e => by have := (HO1.out.lt i e.symm).1; omega)).trans (hbn.block i hi)
          have k8 : Blk w8 p 25 _ := (hold p HS0.out.box.lt).trans HS0.out.box
          have kq8 : Blk w8 q 54 _ := (hold q HQ0.out.lt).trans HQ0.out
          have f0 := k8.frozen 0
          have g0 := k8.cell 0
          have l8 := k8.lt
          simp at g0
          refine hK _ _ (fun _ => ⟨k8, kq8⟩) ?_
          (try simp only [Act.put, List.setIfInBounds_toArray, List.set_cons_zero, List.set_cons_succ])
          refine wpAnyN_one (i := 11) (by kernel_rfl) rfl (fun K hK => ?_)
          simp only [List.getElem_toArray, List.getElem_cons_zero, List.getElem_cons_succ]
          go_simp
          refine hK _ _ (fun h => absurd h (by decide)) ?_
          (try simp only [Act.put, List.setIfInBounds_toArray, List.set_cons_zero, List.set_cons_succ])
          refine wpAnyN_one (i := 12) (by kernel_rfl) rfl (fun K hK => ?_)
          simp only [List.getElem_toArray, List.getElem_cons_zero, List.getElem_cons_succ]
          go_simp
          refine hK _ _ (fun h => absurd h (by decide)) ?_
          (try simp only [Act.put, List.setIfInBounds_toArray, List.set_cons_zero, List.set_cons_succ])
          refine wpAnyN_one (i := 13) (by kernel_rfl) rfl (fun K hK => ?_)
          simp only [List.getElem_toArray, List.getElem_cons_zero, List.getElem_cons_succ]
          go_simp
          refine hK _ _ (fun h => absurd h (by decide)) ?_
          (try simp only [Act.put, List.setIfInBounds_toArray, List.set_cons_zero, List.set_cons_succ])
          refine wpAnyN_done (by kernel_rfl) ?_ _
          have hbF := k8.set_ 0 (.slice (some ⟨gD, 0, none⟩) (s.envs.length + 1) e8)
          have huF := (Upd.refl p w8).set 0 (.slice (some ⟨gD, 0, none⟩) (s.envs.length + 1) e8)
          obtain ⟨W9, HW9⟩ : ∃ X, Hid (X = w8.setCell ⟨p, 0, none⟩ (.slice (some ⟨gD, 0, none⟩) (s.envs.length + 1) e8)) := ⟨_, rfl⟩
          rw [← HW9.out] at hbF huF ⊢
          clear HW9
          have hz : ∀ i, i < X0.heap.size → i ≠ p → W9.heap[i]? = X0.heap[i]? := fun i h1 h2 => (huF.block i h2).trans (hold i h1)
          have hbF' : Blk W9 p 25 #[.slice (some ⟨gD, 0, none⟩) (s.envs.length + 1) e8, .int .i64 s.e, .slice A' s.chs.length c'] := by simpa using hbF
          have hgD : X0.heap.size ≤ gD := by
            have := (ho8.lt gD rfl).1
            exact this
          have hP := HS0.out.allocated (w' := W9) (x := ⟨s.e, id, pc, List.replicate k ⟨1, 0⟩⟩) (vy := .slice Av k av) (ve' := .slice (some ⟨gD, 0, none⟩) (s.envs.length + 1) e8) (e := s.e) (b := w.heap.size) HFL.out
            (fun v hv j hj => by
              obtain ⟨t, size, l, xs, h1, t1, t2⟩ := HS0.out.typedE hv
              exact hz j (h1.lt j hj).2 (own_ne h1 HS0.out.box t1 hj))
            hbF' (own_base (own_stay ho8 fun j hj => huF.block j (own_ne ho8 k8 (by decide) hj)) (Nat.le_trans hBw HB0.out.size)) (by show W9.ownsRow B 38 2 _ (List.replicate k (⟨1, 0⟩ : Cl)).length _; rw [List.length_replicate]; exact own_base (own_stay HV0.out fun j hj => hz j (HV0.out.lt j hj).2 (own_ne HV0.out HS0.out.box (by decide) hj)) hBw) (fun j hj => (HV0.out.lt j hj).1)
          have hsub : ∀ j ∈ foot p (.slice (some ⟨gD, 0, none⟩) (s.envs.length + 1) e8) (.slice A' s.chs.length c') (ys ++ [.slice Av k av]) cs, j ∈ foot p (.slice A s.envs.length c) (.slice A' s.chs.length c') ys cs ∨ w.heap.size ≤ j := fun j hj => by
            rcases List.mem_cons.1 hj with rfl | hj
            · exact .inl List.mem_cons_self
            · obtain ⟨v, hv, e⟩ := List.mem_filterMap.1 hj
              simp only [List.cons_append, List.mem_cons, List.mem_append, List.not_mem_nil, or_false] at hv
              rcases hv with rfl | rfl | (((hv | rfl) | hv) | hv)
              · have e : gD = j := by simpa [Value.ownBlock] using e
                subst e
                exact .inr (Nat.le_trans HB0.out.size hgD)
              · exact .inl (foot_mem (by simp) e)
              · exact .inl (foot_mem (by simp [hv]) e)
              · exact .inr (HV0.out.lt j e).1
              · exact .inl (foot_mem (List.mem_append_left _ (List.mem_append_right _ hv)) e)
              · exact .inl (foot_mem (List.mem_append_right _ hv) e)
          have hKF : Kept (foot p (.slice A s.envs.length c) (.slice A' s.chs.length c') ys cs) w W9 := by
            refine ⟨huF.os.trans (hg8.os.trans (hbn.os.trans HB0.out.os)), huF.tape.trans (hg8.tape.trans (hbn.tape.trans HB0.out.tape)), huF.output.trans (hg8.output.trans (hbn.output.trans HB0.out.output)), ?_, fun i hi hf => (hz i (Nat.lt_of_lt_of_le hi HB0.out.size) (fun e => hf (e ▸ List.mem_cons_self))).trans (HB0.out.block i hi)⟩
            rw [huF.size]
            exact Nat.le_trans HB0.out.size (Nat.le_trans hbn.size hg8.size)
          have HP := Lib.hid hP
          have HSUB := Lib.hid hsub
          have HKF := Lib.hid hKF
          have c1 := hbF.cell 1
          have fr1 := hbF.frozen 1
          have pl := hbF.lt
          have HBF := Lib.hid hbF
          simp at c1
          have hpw : IntKind.i64.wrap ((s.envs.length : Int) + 1) = (s.envs.length : Int) + 1 := by rw [IntKind.wrap_i64]; omega
          clear hP hKF hsub hz hbF hbF' huF k8 kq8 ho8 hg8 hat8 hlt8 hS0 f0 g0 l8 hold hbn hgD
          go_wp2_with fail
          go_ret
          have huG := (Upd.refl p W9).set 1 (.int .i64 ((s.envs.length : Int) + 1))
          have hbG := HBF.out.set_ 1 (.int .i64 ((s.envs.length : Int) + 1))
          have hPF := HP.out.boxE huG (e := (s.envs.length : Int) + 1) (by simpa using hbG)
          exact ⟨rfl, ⟨_, _, _, _, hPF, HSUB.out⟩, HKF.out.trans (Kept.upd huG List.mem_cons_self)⟩
end Go.Proofs.Ytpkpffnabcgcbaa
