/-
  The walk of Push.
-/
import Derived.Test.YtpkpffnabcgcbaaFk
import Derived.Test.YtpkpffnabcgcbaaFd
namespace Go.Proofs.Ytpkpffnabcgcbaa
open Go.RowKit

theorem info29 : (Try.prog.info? 29).map (fun i => (i.zero, i.size, i.bytes)) = some (some chZ, 11, 120) := by kernel_rfl
def pushV (s : St) (x : Ch) : Except Int St := if 1048576 ≤ s.chs.length then .error 13 else .ok ⟨s.envs, s.e, s.chs ++ [{ x with env := s.e, envs := max s.e (protV s) }]⟩
set_option maxHeartbeats 4000000 in
theorem push_any {B p : Nat} {s : St} {x : Ch} {Aa Ab : Option Addr} {ca cb : Nat} {ve vc : Value} {ys : List Value} {cs : List (Value × Value)} (w : World) (h : Stk w B p s ve vc ys cs) (hnc : s.chs.length ≤ 1000000000000)
    (hca : CapOk Aa x.args.length ca) (hra : RowIn w Aa (cCs x.args)) (hla : x.args.length ≤ 8796093022208) (hcb : CapOk Ab x.alts.length cb) (hrb : RowIn w Ab (iCs x.alts)) (hlb : x.alts.length ≤ 17592186044416) :
    Calls Try.prog 11 #[.pointer (some ⟨p, 0, none⟩), chV x (.slice Aa x.args.length ca, .slice Ab x.alts.length cb)] w (RetP B p (foot p ve vc ys cs) (.int .i64 (errOf (pushV s x))) (stOf s (pushV s x)) w) := by
  obtain ⟨i1, hi1, hz1, hy1, hb1'⟩ := info_parts info29
  have hBw : B ≤ w.heap.size := Nat.le_of_lt (Nat.lt_of_le_of_lt h.low h.box.lt)
  obtain ⟨A', c', rfl, hcap'⟩ := own_form h.chs
  obtain ⟨W, HW⟩ : ∃ W, Hid (W = w.alloc (.cells #[.int .i64 x.kind, .slice Aa x.args.length ca, .int .i64 x.env, .int .i64 x.id, .int .i64 x.pc, .int .i64 x.cut, .int .i64 x.mark, .int .i64 x.top, .int .i64 x.envs, .slice Ab x.alts.length cb, .int .i64 x.data] 29)) := ⟨_, rfl⟩
  have hbW : Below w.heap.size w W := by rw [HW.out]; exact bAlloc _ _
  have hkW : Blk W w.heap.size 29 #[.int .i64 x.kind, .slice Aa x.args.length ca, .int .i64 x.env, .int .i64 x.id, .int .i64 x.pc, .int .i64 x.cut, .int .i64 x.mark, .int .i64 x.top, .int .i64 x.envs, .slice Ab x.alts.length cb, .int .i64 x.data] := by rw [HW.out]; exact Blk.new _ _ _
  have HFL := Lib.hid h.foot_lt
  have HS := Lib.hid (h.next hbW)
  have HB := Lib.hid hbW
  have HK := Lib.hid hkW
  have hr : ∀ {A : Option Addr} {xs : List Value}, RowIn w A xs → RowIn W A xs := fun h1 ad ha j u hj => by
    have h2 := h1 ad ha j u hj
    rw [← h2]
    exact hbW.cell (World.block_lt_of_cell? w _ h2)
  have HRA := Lib.hid (hr hra)
  have HRB := Lib.hid (hr hrb)
  have HCA := Lib.hid hca
  have HCB := Lib.hid hcb
  obtain ⟨c0, c1, c2⟩ := HS.out.cells
  have hl := HS.out.box.lt
  clear h hbW hkW hra hrb hr hca hcb
  by_cases hfull : 1048576 ≤ s.chs.length
  · have hv : pushV s x = .error 13 := by unfold pushV; rw [if_pos hfull]
    have hfi : (1048576 : Int) ≤ (s.chs.length : Int) := by omega
    rw [hv]
    go_enter Try.func11, Try.ntmps11
    go_upto_region 1 with fail
    rw [← HW.out]
    clear HW
    go_wp2_with fail
    go_ret
    exact ⟨rfl, ⟨_, _, _, _, HS.out, fun g hg => .inl hg⟩, Kept.below HB.out⟩
  · have hv : pushV s x = .ok ⟨s.envs, s.e, s.chs ++ [{ x with env := s.e, envs := max s.e (protV s) }]⟩ := by unfold pushV; rw [if_neg hfull]
    have hfi : ¬ (1048576 : Int) ≤ (s.chs.length : Int) := by omega
    rw [hv]
    go_enter Try.func11, Try.ntmps11
    go_upto_region 1 with fail
    rw [← HW.out]
    clear HW
    go_upto_region 5 with fail
    refine wp_region_N (fun w' => Blk w' w.heap.size 29 #[.int .i64 x.kind, .slice Aa x.args.length ca, .int .i64 x.env, .int .i64 x.id, .int .i64 x.pc, .int .i64 x.cut, .int .i64 x.mark, .int .i64 x.top, .int .i64 x.envs, .slice Ab x.alts.length cb, .int .i64 x.data]) (fun j => decide (j < 7)) (by kernel_rfl) ?_
    have hS0 : (fun w' => Blk w' w.heap.size 29 #[.int .i64 x.kind, .slice Aa x.args.length ca, .int .i64 x.env, .int .i64 x.id, .int .i64 x.pc, .int .i64 x.cut, .int .i64 x.mark, .int .i64 x.top, .int .i64 x.envs, .slice Ab x.alts.length cb, .int .i64 x.data]) W.drew := HK.out
    refine wpAnyN_take (i := 0) (v := ?v1) rfl (by kernel_rfl) (by kernel_rfl) (by kernel_rfl) (by kernel_rfl) (fun _ _ _ h => h) (Or.inl ⟨by rfl, ?hy1⟩) (by assumption) ?_
    case hy1 => intro w hSw; have e1 := hSw.cell 1; have e9 := hSw.cell 9; simp at e1 e9; go_simp; try with_reducible rfl
    simp only [Act.put, List.getElem_toArray, List.getElem_cons_zero, List.setIfInBounds_toArray, List.set_cons_zero, List.set_cons_succ]
    refine wpAnyN_take (i := 1) (v := ?v2) rfl (by kernel_rfl) (by kernel_rfl) (by kernel_rfl) (by kernel_rfl) (fun _ _ _ h => h) (Or.inl ⟨by rfl, ?hy2⟩) (by assumption) ?_
    case hy2 => intro w hSw; have e1 := hSw.cell 1; have e9 := hSw.cell 9; simp at e1 e9; go_simp; try with_reducible rfl
    simp only [Act.put, List.getElem_toArray, List.getElem_cons_zero, List.getElem_cons_succ, List.setIfInBounds_toArray, List.set_cons_zero, List.set_cons_succ]
    refine wpAnyN_take (i := 3) (v := ?v3) rfl (by kernel_rfl) (by kernel_rfl) (by kernel_rfl) (by kernel_rfl) (fun _ _ _ h => h) (Or.inl ⟨by rfl, ?hy3⟩) (by assumption) ?_
    case hy3 => intro w hSw; have e1 := hSw.cell 1; have e9 := hSw.cell 9; simp at e1 e9; go_simp; try with_reducible rfl
    simp only [Act.put, List.getElem_toArray, List.getElem_cons_zero, List.getElem_cons_succ, List.setIfInBounds_toArray, List.set_cons_zero, List.set_cons_succ]
    refine wpAnyN_take (i := 4) (v := ?v4) rfl (by kernel_rfl) (by kernel_rfl) (by kernel_rfl) (by kernel_rfl) (fun _ _ _ h => h) (Or.inl ⟨by rfl, ?hy4⟩) (by assumption) ?_
    case hy4 => intro w hSw; have e1 := hSw.cell 1; have e9 := hSw.cell 9; simp at e1 e9; go_simp; try with_reducible rfl
    simp only [Act.put, List.getElem_toArray, List.getElem_cons_zero, List.getElem_cons_succ, List.setIfInBounds_toArray, List.set_cons_zero, List.set_cons_succ]
    refine wpAnyN_one (i := 2) (by kernel_rfl) rfl (fun K hK => ?_)
    simp only [List.getElem_toArray, List.getElem_cons_zero, List.getElem_cons_succ]
    go_simp
    refine (copied_cells Aa ca x.args W.drew HCA.out (fun ad ha j u hj => HRA.out ad ha j u hj) hla).mono ?_
    rintro e w1 ⟨⟨va, rfl, hva⟩, hb1⟩
    have hS1 := hS0.next hb1
    obtain ⟨Va, da, rfl, -⟩ := own_form hva
    have HB1 := Lib.hid (bNext (show Below W.heap.size W W.drew from bDrew W) hb1)
    have HVA := Lib.hid hva
    have hrb1 : RowIn w1 Ab (iCs x.alts) := fun ad ha j u hj => by
      have h2 := HRB.out ad ha j u hj
      rw [← h2]
      exact HB1.out.cell (World.block_lt_of_cell? W _ h2)
    have HRB1 := Lib.hid hrb1
    clear hb1 hva hrb1
    refine hK _ _ (fun _ => hS1) ?_
    (try simp only [Act.put, List.setIfInBounds_toArray, List.set_cons_zero, List.set_cons_succ])
    refine wpAnyN_take (i := 6) (v := ?v5) rfl (by kernel_rfl) (by kernel_rfl) (by kernel_rfl) (by kernel_rfl) (fun _ _ _ h => h) (Or.inl ⟨by rfl, ?hy5⟩) (by assumption) ?_
    case hy5 => intro w hSw; have e1 := hSw.cell 1; have e9 := hSw.cell 9; simp at e1 e9; go_simp; try with_reducible rfl
    simp only [Act.put, List.getElem_toArray, List.getElem_cons_zero, List.getElem_cons_succ, List.setIfInBounds_toArray, List.set_cons_zero, List.set_cons_succ]
    refine wpAnyN_one (i := 5) (by kernel_rfl) rfl (fun K hK => ?_)
    simp only [List.getElem_toArray, List.getElem_cons_zero, List.getElem_cons_succ]
    go_simp
    refine (copied_ints Ab cb x.alts w1 HCB.out HRB1.out hlb).mono ?_
    rintro e w2 ⟨⟨vb, rfl, hvb⟩, hb2⟩
    have hS2 := hS1.next hb2
    obtain ⟨Vb, db, rfl, -⟩ := own_form hvb
    have HVB := Lib.hid hvb
    have HVA2 := Lib.hid (own_stay (w' := w2) HVA.out fun k hk => hb2.block k (HVA.out.lt k hk).2)
    have HB2 := Lib.hid (bNext HB1.out hb2)
    have kb := hS2
    have kf1 := kb.frozen 1
    have kf9 := kb.frozen 9
    have kc1 := kb.cell 1
    have kc9 := kb.cell 9
    have kl := kb.lt
    simp at kc1 kc9
    clear hb2 hvb
    refine hK _ _ (fun _ => hS2) ?_
    (try simp only [Act.put, List.setIfInBounds_toArray, List.set_cons_zero, List.set_cons_succ])
    refine wpAnyN_one (i := 7) (by kernel_rfl) rfl (fun K hK => ?_)
    simp only [List.getElem_toArray, List.getElem_cons_zero, List.getElem_cons_succ]
    go_simp
    refine hK _ _ (fun h => absurd h (by decide)) ?_
    (try simp only [Act.put, List.setIfInBounds_toArray, List.set_cons_zero, List.set_cons_succ])
    refine wpAnyN_one (i := 8) (by kernel_rfl) rfl (fun K hK => ?_)
    simp only [List.getElem_toArray, List.getElem_cons_zero, List.getElem_cons_succ]
    go_simp
    refine hK _ _ (fun h => absurd h (by decide)) ?_
    (try simp only [Act.put, List.setIfInBounds_toArray, List.set_cons_zero, List.set_cons_succ])
    refine wpAnyN_one (i := 9) (by kernel_rfl) rfl (fun K hK => ?_)
    simp only [List.getElem_toArray, List.getElem_cons_zero, List.getElem_cons_succ]
    go_simp
    refine hK _ _ (fun h => absurd h (by decide)) ?_
    (try simp only [Act.put, List.setIfInBounds_toArray, List.set_cons_zero, List.set_cons_succ])
    refine wpAnyN_done (by kernel_rfl) ?_ _
    obtain ⟨q, hq⟩ : ∃ q, q = w.heap.size := ⟨_, rfl⟩
    have hqw : w.heap.size ≤ q := by omega
    have hqW : q < W.heap.size := by rw [hq]; exact HK.out.lt
    rw [← hq] at kb ⊢
    have hu3 := ((Upd.refl q w2).set 1 (.slice Va x.args.length da)).set 9 (.slice Vb x.alts.length db)
    have hk3 := (kb.set_ 1 (.slice Va x.args.length da)).set_ 9 (.slice Vb x.alts.length db)
    obtain ⟨W3, HW3⟩ : ∃ X, Hid (X = (w2.setCell ⟨q, 1, none⟩ (.slice Va x.args.length da)).setCell ⟨q, 9, none⟩ (.slice Vb x.alts.length db)) := ⟨_, rfl⟩
    rw [← HW3.out] at hu3 hk3 ⊢
    clear HW3 kf1 kf9 kc1 kc9 kl c0 c1 c2 hl
    have HK3 := Lib.hid (show Blk W3 q 29 #[.int .i64 x.kind, .slice Va x.args.length da, .int .i64 x.env, .int .i64 x.id, .int .i64 x.pc, .int .i64 x.cut, .int .i64 x.mark, .int .i64 x.top, .int .i64 x.envs, .slice Vb x.alts.length db, .int .i64 x.data] by simpa using hk3)
    have hfl : ∀ g ∈ foot p ve (.slice A' s.chs.length c') ys cs, g ≠ q := fun g hg e => by have := HFL.out g hg; omega
    have HS3 := Lib.hid ((HS.out.next HB2.out).stayF fun g hg => hu3.block g (hfl g hg))
    have HVA3 := Lib.hid (own_stay (w' := W3) HVA2.out fun k hk => hu3.block k (by have h1 : W.heap.size ≤ k := (HVA2.out.lt k hk).1; omega))
    have hw1 : W.heap.size ≤ w1.heap.size := HB1.out.size
    have HVB3 := Lib.hid (own_stay (w' := W3) HVB.out fun k hk => hu3.block k (by have h1 := (HVB.out.lt k hk).1; omega))
    have HB3 := Lib.hid (hu3.below (bNext HB.out HB2.out) (by omega))
    clear hu3 hk3 kb hS0 hS1 hS2 hq
    go_upto_region 6 with fail
    obtain ⟨X1, HX1⟩ : ∃ X, Hid (X = W3.drew) := ⟨_, rfl⟩
    have hd3 : Below W3.heap.size W3 X1 := by rw [HX1.out]; exact bDrew W3
    have HS4 := Lib.hid (HS3.out.next hd3)
    have HK4 := Lib.hid (HK3.out.next hd3)
    have HVA4 := Lib.hid (own_stay (w' := X1) HVA3.out fun k hk => hd3.block k (HVA3.out.lt k hk).2)
    have HVB4 := Lib.hid (own_stay (w' := X1) HVB3.out fun k hk => hd3.block k (HVB3.out.lt k hk).2)
    have HB4 := Lib.hid (bNext HB3.out hd3)
    have hpq : p ≠ q := hfl p List.mem_cons_self
    refine wp_region_N (fun w' => Blk w' p 25 #[ve, .int .i64 s.e, .slice A' s.chs.length c']) (fun j => decide (j < 14)) (by kernel_rfl) ?_
    rw [← HX1.out]
    clear HX1 hd3 HS3 HK3 HVA3 HVB3 HB3
    have hS0 : (fun w' => Blk w' p 25 #[ve, .int .i64 s.e, .slice A' s.chs.length c']) X1 := HS4.out.box
    refine wpAnyN_take (i := 0) (v := ?v6) rfl (by kernel_rfl) (by kernel_rfl) (by kernel_rfl) (by kernel_rfl) (fun _ _ _ h => h) (Or.inl ⟨by rfl, ?hy6⟩) (by assumption) ?_
    case hy6 => intro w hSw; have e0 := hSw.cell 0; have e1 := hSw.cell 1; have e2 := hSw.cell 2; have el := hSw.lt; simp at e0 e1 e2; go_simp; try with_reducible rfl
    simp only [Act.put, List.getElem_toArray, List.getElem_cons_zero, List.setIfInBounds_toArray, List.set_cons_zero, List.set_cons_succ]
    refine wpAnyN_take (i := 1) (v := ?v7) rfl (by kernel_rfl) (by kernel_rfl) (by kernel_rfl) (by kernel_rfl) (fun _ _ _ h => h) (Or.inl ⟨by rfl, ?hy7⟩) (by assumption) ?_
    case hy7 => intro w hSw; have e0 := hSw.cell 0; have e1 := hSw.cell 1; have e2 := hSw.cell 2; have el := hSw.lt; simp at e0 e1 e2; go_simp; try with_reducible rfl
    simp only [Act.put, List.getElem_toArray, List.getElem_cons_zero, List.getElem_cons_succ, List.setIfInBounds_toArray, List.set_cons_zero, List.set_cons_succ]
    refine wpAnyN_take (i := 2) (v := ?v8) rfl (by kernel_rfl) (by kernel_rfl) (by kernel_rfl) (by kernel_rfl) (fun _ _ _ h => h) (Or.inl ⟨by rfl, ?hy8⟩) (by assumption) ?_
    case hy8 => intro w hSw; have e0 := hSw.cell 0; have e1 := hSw.cell 1; have e2 := hSw.cell 2; have el := hSw.lt; simp at e0 e1 e2; go_simp; try with_reducible rfl
    simp only [Act.put, List.getElem_toArray, List.getElem_cons_zero, List.getElem_cons_succ, List.setIfInBounds_toArray, List.set_cons_zero, List.set_cons_succ]
    refine wpAnyN_take (i := 3) (v := ?v9) rfl (by kernel_rfl) (by kernel_rfl) (by kernel_rfl) (by kernel_rfl) (fun _ _ _ h => h) (Or.inl ⟨by rfl, ?hy9⟩) (by assumption) ?_
    case hy9 => intro w hSw; have e0 := hSw.cell 0; have e1 := hSw.cell 1; have e2 := hSw.cell 2; have el := hSw.lt; simp at e0 e1 e2; go_simp; try with_reducible rfl
    simp only [Act.put, List.getElem_toArray, List.getElem_cons_zero, List.getElem_cons_succ, List.setIfInBounds_toArray, List.set_cons_zero, List.set_cons_succ]
    refine wpAnyN_take (i := 4) (v := ?v10) rfl (by kernel_rfl) (by kernel_rfl) (by kernel_rfl) (by kernel_rfl) (fun _ _ _ h => h) (Or.inl ⟨by rfl, ?hy10⟩) (by assumption) ?_
    case hy10 => intro w hSw; have e0 := hSw.cell 0; have e1 := hSw.cell 1; have e2 := hSw.cell 2; have el := hSw.lt; simp at e0 e1 e2; go_simp; try with_reducible rfl
    simp only [Act.put, List.getElem_toArray, List.getElem_cons_zero, List.getElem_cons_succ, List.setIfInBounds_toArray, List.set_cons_zero, List.set_cons_succ]
    refine wpAnyN_take (i := 5) (v := ?v11) rfl (by kernel_rfl) (by kernel_rfl) (by kernel_rfl) (by kernel_rfl) (fun _ _ _ h => h) (Or.inl ⟨by rfl, ?hy11⟩) (by assumption) ?_
    case hy11 => intro w hSw; have e0 := hSw.cell 0; have e1 := hSw.cell 1; have e2 := hSw.cell 2; have el := hSw.lt; simp at e0 e1 e2; go_simp; try with_reducible rfl
    simp only [Act.put, List.getElem_toArray, List.getElem_cons_zero, List.getElem_cons_succ, List.setIfInBounds_toArray, List.set_cons_zero, List.set_cons_succ]
    refine wpAnyN_take (i := 6) (v := ?v12) rfl (by kernel_rfl) (by kernel_rfl) (by kernel_rfl) (by kernel_rfl) (fun _ _ _ h => h) (Or.inl ⟨by rfl, ?hy12⟩) (by assumption) ?_
    case hy12 => intro w hSw; have e0 := hSw.cell 0; have e1 := hSw.cell 1; have e2 := hSw.cell 2; have el := hSw.lt; simp at e0 e1 e2; go_simp; try with_reducible rfl
    simp only [Act.put, List.getElem_toArray, List.getElem_cons_zero, List.getElem_cons_succ, List.setIfInBounds_toArray, List.set_cons_zero, List.set_cons_succ]
    refine wpAnyN_take (i := 7) (v := ?v13) rfl (by kernel_rfl) (by kernel_rfl) (by kernel_rfl) (by kernel_rfl) (fun _ _ _ h => h) (Or.inl ⟨by rfl, ?hy13⟩) (by assumption) ?_
    case hy13 => intro w hSw; have e0 := hSw.cell 0; have e1 := hSw.cell 1; have e2 := hSw.cell 2; have el := hSw.lt; simp at e0 e1 e2; go_simp; try with_reducible rfl
    simp only [Act.put, List.getElem_toArray, List.getElem_cons_zero, List.getElem_cons_succ, List.setIfInBounds_toArray, List.set_cons_zero, List.set_cons_succ]
    refine wpAnyN_take (i := 8) (v := ?v14) rfl (by kernel_rfl) (by kernel_rfl) (by kernel_rfl) (by kernel_rfl) (fun _ _ _ h => h) (Or.inl ⟨by rfl, ?hy14⟩) (by assumption) ?_
    case hy14 => intro w hSw; have e0 := hSw.cell 0; have e1 := hSw.cell 1; have e2 := hSw.cell 2; have el := hSw.lt; simp at e0 e1 e2; go_simp; try with_reducible rfl
    simp only [Act.put, List.getElem_toArray, List.getElem_cons_zero, List.getElem_cons_succ, List.setIfInBounds_toArray, List.set_cons_zero, List.set_cons_succ]
    refine wpAnyN_take (i := 11) (v := ?v15) rfl (by kernel_rfl) (by kernel_rfl) (by kernel_rfl) (by kernel_rfl) (fun _ _ _ h => h) (Or.inl ⟨by rfl, ?hy15⟩) (by assumption) ?_
    case hy15 => intro w hSw; have e0 := hSw.cell 0; have e1 := hSw.cell 1; have e2 := hSw.cell 2; have el := hSw.lt; simp at e0 e1 e2; go_simp; try with_reducible rfl
    simp only [Act.put, List.getElem_toArray, List.getElem_cons_zero, List.getElem_cons_succ, List.setIfInBounds_toArray, List.set_cons_zero, List.set_cons_succ]
    refine wpAnyN_one (i := 9) (by kernel_rfl) rfl (fun K hK => ?_)
    simp only [List.getElem_toArray, List.getElem_cons_zero, List.getElem_cons_succ]
    go_simp
    refine (protected_any X1 HS4.out hnc).mono ?_
    rintro e w5 ⟨rfl, rfl⟩
    refine hK _ _ (fun _ => hS0) ?_
    (try simp only [Act.put, List.setIfInBounds_toArray, List.set_cons_zero, List.set_cons_succ])
    refine wpAnyN_take (i := 10) (v := ?v16) rfl (by kernel_rfl) (by kernel_rfl) (by kernel_rfl) (by kernel_rfl) (fun _ _ _ h => h) (Or.inl ⟨by rfl, ?hy16⟩) (by assumption) ?_
    case hy16 => intro w hSw; have e0 := hSw.cell 0; have e1 := hSw.cell 1; have e2 := hSw.cell 2; have el := hSw.lt; simp at e0 e1 e2; go_simp; try with_reducible rfl
    simp only [Act.put, List.getElem_toArray, List.getElem_cons_zero, List.getElem_cons_succ, List.setIfInBounds_toArray, List.set_cons_zero, List.set_cons_succ]
    rw [show (if s.e < protV s then protV s else s.e) = max s.e (protV s) by split <;> omega]
    have kb := HK4.out
    have kf2 := kb.frozen 2
    have kf8 := kb.frozen 8
    have kc2 := kb.cell 2
    have kc8 := kb.cell 8
    have kl := kb.lt
    simp at kc2 kc8
    refine wpAnyN_one (i := 12) (by kernel_rfl) rfl (fun K hK => ?_)
    simp only [List.getElem_toArray, List.getElem_cons_zero, List.getElem_cons_succ]
    go_simp
    refine hK _ _ (fun _ => hS0.far (by simpa using hpq) _) ?_
    (try simp only [Act.put, List.setIfInBounds_toArray, List.set_cons_zero, List.set_cons_succ])
    refine wpAnyN_one (i := 13) (by kernel_rfl) rfl (fun K hK => ?_)
    simp only [List.getElem_toArray, List.getElem_cons_zero, List.getElem_cons_succ]
    go_simp
    refine hK _ _ (fun _ => hS0.far (by simpa using hpq) _) ?_
    (try simp only [Act.put, List.setIfInBounds_toArray, List.set_cons_zero, List.set_cons_succ])
    refine wpAnyN_one (i := 14) (by kernel_rfl) rfl (fun K hK => ?_)
    simp only [List.getElem_toArray, List.getElem_cons_zero, List.getElem_cons_succ]
    go_simp
    refine hK _ _ (fun h => absurd h (by decide)) ?_
    (try simp only [Act.put, List.setIfInBounds_toArray, List.set_cons_zero, List.set_cons_succ])
    refine wpAnyN_done (by kernel_rfl) ?_ _
    obtain ⟨mx, hmx⟩ : ∃ mx, Hid (mx = max s.e (protV s)) := ⟨_, rfl⟩
    rw [← hmx.out]
    have hu5 := ((Upd.refl q w5).set 2 (.int .i64 s.e)).set 8 (.int .i64 mx)
    have hk5 := (kb.set_ 2 (.int .i64 s.e)).set_ 8 (.int .i64 mx)
    obtain ⟨W6, HW6⟩ : ∃ X, Hid (X = (w5.setCell ⟨q, 2, none⟩ (.int .i64 s.e)).setCell ⟨q, 8, none⟩ (.int .i64 mx)) := ⟨_, rfl⟩
    rw [← HW6.out] at hu5 hk5 ⊢
    have HK6 := Lib.hid (show Blk W6 q 29 #[.int .i64 x.kind, .slice Va x.args.length da, .int .i64 s.e, .int .i64 x.id, .int .i64 x.pc, .int .i64 x.cut, .int .i64 x.mark, .int .i64 x.top, .int .i64 mx, .slice Vb x.alts.length db, .int .i64 x.data] by simpa using hk5)
    have HS6 := Lib.hid (HS4.out.stayF fun g hg => hu5.block g (hfl g hg))
    have HVA6 := Lib.hid (own_stay (w' := W6) HVA4.out fun k hk => hu5.block k (by have h1 : W.heap.size ≤ k := (HVA4.out.lt k hk).1; omega))
    have HVB6 := Lib.hid (own_stay (w' := W6) HVB4.out fun k hk => hu5.block k (by have h1 := (HVB4.out.lt k hk).1; omega))
    have HQw := Lib.hid hqw
    have HB6 := Lib.hid (hu5.below HB4.out HQw.out)
    clear HW6 hu5 hk5 kb kf2 kf8 kc2 kc8 kl hS0 HS4 HK4 HVA4 HVB4 HB4
    go_upto_region 7 with fail
    obtain ⟨X7, HX7⟩ : ∃ X, Hid (X = W6.drew) := ⟨_, rfl⟩
    have hd6 : Below W6.heap.size W6 X7 := by rw [HX7.out]; exact bDrew W6
    have HS7 := Lib.hid (HS6.out.next hd6)
    have HK7 := Lib.hid (HK6.out.next hd6)
    have HVA7 := Lib.hid (own_stay (w' := X7) HVA6.out fun k hk => hd6.block k (HVA6.out.lt k hk).2)
    have HVB7 := Lib.hid (own_stay (w' := X7) HVB6.out fun k hk => hd6.block k (HVB6.out.lt k hk).2)
    have HB7 := Lib.hid (bNext HB6.out hd6)
    refine wp_region_N (fun w' => Blk w' p 25 #[ve, .int .i64 s.e, .slice A' s.chs.length c'] ∧ Blk w' q 29 #[.int .i64 x.kind, .slice Va x.args.length da, .int .i64 s.e, .int .i64 x.id, .int .i64 x.pc, .int .i64 x.cut, .int .i64 x.mark, .int .i64 x.top, .int .i64 mx, .slice Vb x.alts.length db, .int .i64 x.data]) (fun j => decide (j < 8)) (by kernel_rfl) ?_
    rw [← HX7.out]
    clear HX7 hd6 HS6 HK6 HVA6 HVB6 HB6
    have hS0 : (fun w' => Blk w' p 25 #[ve, .int .i64 s.e, .slice A' s.chs.length c'] ∧ Blk w' q 29 #[.int .i64 x.kind, .slice Va x.args.length da, .int .i64 s.e, .int .i64 x.id, .int .i64 x.pc, .int .i64 x.cut, .int .i64 x.mark, .int .i64 x.top, .int .i64 mx, .slice Vb x.alts.length db, .int .i64 x.data]) X7 := ⟨HS7.out.box, HK7.out⟩
    refine wpAnyN_take (i := 0) (v := ?v17) rfl (by kernel_rfl) (by kernel_rfl) (by kernel_rfl) (by kernel_rfl) (fun _ _ _ h => h) (Or.inl ⟨by rfl, ?hy17⟩) (by assumption) ?_
    case hy17 => intro w hSw; obtain ⟨hsp, hsq⟩ := hSw; have e2 := hsp.cell 2; have i0 := hsq.cell 0; have i1 := hsq.cell 1; have i2 := hsq.cell 2; have i3 := hsq.cell 3; have i4 := hsq.cell 4; have i5 := hsq.cell 5; have i6 := hsq.cell 6; have i7 := hsq.cell 7; have i8 := hsq.cell 8; have i9 := hsq.cell 9; have i10 := hsq.cell 10; simp at e2 i0 i1 i2 i3 i4 i5 i6 i7 i8 i9 i10; go_simp; try with_reducible rfl
    simp only [Act.put, List.getElem_toArray, List.getElem_cons_zero, List.setIfInBounds_toArray, List.set_cons_zero, List.set_cons_succ]
    refine wpAnyN_take (i := 1) (v := ?v18) rfl (by kernel_rfl) (by kernel_rfl) (by kernel_rfl) (by kernel_rfl) (fun _ _ _ h => h) (Or.inl ⟨by rfl, ?hy18⟩) (by assumption) ?_
    case hy18 => intro w hSw; obtain ⟨hsp, hsq⟩ := hSw; have e2 := hsp.cell 2; have i0 := hsq.cell 0; have i1 := hsq.cell 1; have i2 := hsq.cell 2; have i3 := hsq.cell 3; have i4 := hsq.cell 4; have i5 := hsq.cell 5; have i6 := hsq.cell 6; have i7 := hsq.cell 7; have i8 := hsq.cell 8; have i9 := hsq.cell 9; have i10 := hsq.cell 10; simp at e2 i0 i1 i2 i3 i4 i5 i6 i7 i8 i9 i10; go_simp; try with_reducible rfl
    simp only [Act.put, List.getElem_toArray, List.getElem_cons_zero, List.getElem_cons_succ, List.setIfInBounds_toArray, List.set_cons_zero, List.set_cons_succ]
    refine wpAnyN_take (i := 2) (v := ?v19) rfl (by kernel_rfl) (by kernel_rfl) (by kernel_rfl) (by kernel_rfl) (fun _ _ _ h => h) (Or.inl ⟨by rfl, ?hy19⟩) (by assumption) ?_
    case hy19 => intro w hSw; obtain ⟨hsp, hsq⟩ := hSw; have e2 := hsp.cell 2; have i0 := hsq.cell 0; have i1 := hsq.cell 1; have i2 := hsq.cell 2; have i3 := hsq.cell 3; have i4 := hsq.cell 4; have i5 := hsq.cell 5; have i6 := hsq.cell 6; have i7 := hsq.cell 7; have i8 := hsq.cell 8; have i9 := hsq.cell 9; have i10 := hsq.cell 10; simp at e2 i0 i1 i2 i3 i4 i5 i6 i7 i8 i9 i10; go_simp; try with_reducible rfl
    simp only [Act.put, List.getElem_toArray, List.getElem_cons_zero, List.getElem_cons_succ, List.setIfInBounds_toArray, List.set_cons_zero, List.set_cons_succ]
    refine wpAnyN_take (i := 3) (v := ?v20) rfl (by kernel_rfl) (by kernel_rfl) (by kernel_rfl) (by kernel_rfl) (fun _ _ _ h => h) (Or.inl ⟨by rfl, ?hy20⟩) (by assumption) ?_
    case hy20 => intro w hSw; obtain ⟨hsp, hsq⟩ := hSw; have e2 := hsp.cell 2; have i0 := hsq.cell 0; have i1 := hsq.cell 1; have i2 := hsq.cell 2; have i3 := hsq.cell 3; have i4 := hsq.cell 4; have i5 := hsq.cell 5; have i6 := hsq.cell 6; have i7 := hsq.cell 7; have i8 := hsq.cell 8; have i9 := hsq.cell 9; have i10 := hsq.cell 10; simp at e2 i0 i1 i2 i3 i4 i5 i6 i7 i8 i9 i10; go_simp; try with_reducible rfl
    simp only [Act.put, List.getElem_toArray, List.getElem_cons_zero, List.getElem_cons_succ, List.setIfInBounds_toArray, List.set_cons_zero, List.set_cons_succ]
    refine wpAnyN_take (i := 4) (v := ?v21) rfl (by kernel_rfl) (by kernel_rfl) (by kernel_rfl) (by kernel_rfl) (fun _ _ _ h => h) (Or.inl ⟨by rfl, ?hy21⟩) (by assumption) ?_
    case hy21 => intro w hSw; obtain ⟨hsp, hsq⟩ := hSw; have e2 := hsp.cell 2; have i0 := hsq.cell 0; have i1 := hsq.cell 1; have i2 := hsq.cell 2; have i3 := hsq.cell 3; have i4 := hsq.cell 4; have i5 := hsq.cell 5; have i6 := hsq.cell 6; have i7 := hsq.cell 7; have i8 := hsq.cell 8; have i9 := hsq.cell 9; have i10 := hsq.cell 10; simp at e2 i0 i1 i2 i3 i4 i5 i6 i7 i8 i9 i10; go_simp; try with_reducible rfl
    simp only [Act.put, List.getElem_toArray, List.getElem_cons_zero, List.getElem_cons_succ, List.setIfInBounds_toArray, List.set_cons_zero, List.set_cons_succ]
    refine wpAnyN_take (i := 5) (v := ?v22) rfl (by kernel_rfl) (by kernel_rfl) (by kernel_rfl) (by kernel_rfl) (fun _ _ _ h => h) (Or.inl ⟨by rfl, ?hy22⟩) (by assumption) ?_
    case hy22 => intro w hSw; obtain ⟨hsp, hsq⟩ := hSw; have e2 := hsp.cell 2; have i0 := hsq.cell 0; have i1 := hsq.cell 1; have i2 := hsq.cell 2; have i3 := hsq.cell 3; have i4 := hsq.cell 4; have i5 := hsq.cell 5; have i6 := hsq.cell 6; have i7 := hsq.cell 7; have i8 := hsq.cell 8; have i9 := hsq.cell 9; have i10 := hsq.cell 10; simp at e2 i0 i1 i2 i3 i4 i5 i6 i7 i8 i9 i10; go_simp; try with_reducible rfl
    simp only [Act.put, List.getElem_toArray, List.getElem_cons_zero, List.getElem_cons_succ, List.setIfInBounds_toArray, List.set_cons_zero, List.set_cons_succ]
    refine wpAnyN_one (i := 6) (by kernel_rfl) rfl (fun K hK => ?_)
    simp only [List.getElem_toArray, List.getElem_cons_zero, List.getElem_cons_succ]
    go_simp
    refine hK _ _ (fun _ => ⟨hS0.1.alloc _, hS0.2.alloc _⟩) ?_
    (try simp only [Act.put, List.setIfInBounds_toArray, List.set_cons_zero, List.set_cons_succ])
    have hX7 : B ≤ X7.heap.size := Nat.le_trans hBw HB7.out.size
    refine wpAnyN_one (i := 7) (by kernel_rfl) rfl (fun K hK => ?_)
    simp only [List.getElem_toArray, List.getElem_cons_zero, List.getElem_cons_succ]
    rw [if_pos (by rfl)]
    have hblk := Blk.new X7 29 #[.int .i64 x.kind, .slice Va x.args.length da, .int .i64 s.e, .int .i64 x.id, .int .i64 x.pc, .int .i64 x.cut, .int .i64 x.mark, .int .i64 x.top, .int .i64 mx, .slice Vb x.alts.length db, .int .i64 x.data]
    refine wp_append_lies _ (.tmp 38) (.tmp 40) 23 rfl B 29 i1 _ 11 120 Try.underlying23 hi1 hz1 hy1 hb1' rfl (by decide) (.slice A' s.chs.length c') s.chs.length (hCs s.chs cs) rfl (HS7.out.chs.alloc _) ⟨X7.heap.size, 0, none⟩ 1 1 (hCs [⟨x.kind, x.args, s.e, x.id, x.pc, x.cut, x.mark, x.top, mx, x.alts, x.data⟩] [(.slice Va x.args.length da, .slice Vb x.alts.length db)]) rfl ?c1 ?c2 ?c3 (by omega) ?c4 ?c5 ?c6 _ rfl ?_
    case c1 => rfl
    case c2 =>
      intro j u hj
      have h := hblk.cell j
      have e : (⟨X7.heap.size, 0, none⟩ : Addr).add j = ⟨X7.heap.size, j, none⟩ := by cases j <;> simp [Addr.add]
      rw [e]
      exact h.trans (by simpa [hCs] using hj)
    case c3 =>
      intro u hu
      simp only [hCs, List.mem_cons, List.not_mem_nil, or_false] at hu
      rcases hu with rfl | rfl | rfl | rfl | rfl | rfl | rfl | rfl | rfl | rfl | rfl <;> rfl
    case c4 => unfold maxLen; omega
    case c5 => omega
    case c6 => simp; omega
    intro gD e8 w8 ho8 hg8 hat8 hlt8
    have hgp : Value.ownBlock (.slice A' s.chs.length c') ≠ some p := fun e => own_ne HS7.out.chs HS7.out.box (by decide) e rfl
    have k8 : Blk w8 p 25 _ := Blk.grown (w := X7.alloc (.cells #[.int .i64 x.kind, .slice Va x.args.length da, .int .i64 s.e, .int .i64 x.id, .int .i64 x.pc, .int .i64 x.cut, .int .i64 x.mark, .int .i64 x.top, .int .i64 mx, .slice Vb x.alts.length db, .int .i64 x.data] 29)) (HS7.out.box.alloc _) hg8 hgp
    have f2 := k8.frozen 2
    have g2 := k8.cell 2
    have l8 := k8.lt
    simp at g2
    have hgq : Value.ownBlock (.slice A' s.chs.length c') ≠ some q := fun e => hfl q (foot_mem (by simp) e) rfl
    have kq8 : Blk w8 q 29 _ := Blk.grown (w := X7.alloc (.cells #[.int .i64 x.kind, .slice Va x.args.length da, .int .i64 s.e, .int .i64 x.id, .int .i64 x.pc, .int .i64 x.cut, .int .i64 x.mark, .int .i64 x.top, .int .i64 mx, .slice Vb x.alts.length db, .int .i64 x.data] 29)) (HK7.out.alloc _) hg8 hgq
    refine hK _ _ (fun _ => ⟨k8, kq8⟩) ?_
    (try simp only [Act.put, List.setIfInBounds_toArray, List.set_cons_zero, List.set_cons_succ])
    refine wpAnyN_one (i := 8) (by kernel_rfl) rfl (fun K hK => ?_)
    simp only [List.getElem_toArray, List.getElem_cons_zero, List.getElem_cons_succ]
    go_simp
    refine hK _ _ (fun h => absurd h (by decide)) ?_
    (try simp only [Act.put, List.setIfInBounds_toArray, List.set_cons_zero, List.set_cons_succ])
    refine wpAnyN_one (i := 9) (by kernel_rfl) rfl (fun K hK => ?_)
    simp only [List.getElem_toArray, List.getElem_cons_zero, List.getElem_cons_succ]
    go_simp
    refine hK _ _ (fun h => absurd h (by decide)) ?_
    (try simp only [Act.put, List.setIfInBounds_toArray, List.set_cons_zero, List.set_cons_succ])
    refine wpAnyN_one (i := 10) (by kernel_rfl) rfl (fun K hK => ?_)
    simp only [List.getElem_toArray, List.getElem_cons_zero, List.getElem_cons_succ]
    go_simp
    refine hK _ _ (fun h => absurd h (by decide)) ?_
    (try simp only [Act.put, List.setIfInBounds_toArray, List.set_cons_zero, List.set_cons_succ])
    refine wpAnyN_done (by kernel_rfl) ?_ _
    have hbF := k8.set_ 2 (.slice (some ⟨gD, 0, none⟩) (s.chs.length + 1) e8)
    have huF := (Upd.refl p w8).set 2 (.slice (some ⟨gD, 0, none⟩) (s.chs.length + 1) e8)
    obtain ⟨WF, HWF⟩ : ∃ X, Hid (X = w8.setCell ⟨p, 2, none⟩ (.slice (some ⟨gD, 0, none⟩) (s.chs.length + 1) e8)) := ⟨_, rfl⟩
    rw [← HWF.out] at hbF huF ⊢
    have hz : ∀ k, k < X7.heap.size → k ≠ p → some k ≠ Value.ownBlock (.slice A' s.chs.length c') → WF.heap[k]? = X7.heap[k]? := fun k h1 h2 h3 =>
      (huF.block k h2).trans ((hg8.block k (by simp; omega) h3).trans (Below.heap_alloc X7 _ k h1))
    have hrow : ∀ {t size n B' : Nat} {v : Value} {xs : List Value}, X7.ownsRow B' t size v n xs → t ≠ 25 → t ≠ 29 → WF.ownsRow B' t size v n xs := fun h1 t1 t2 =>
      own_stay h1 fun k hk => hz k (h1.lt k hk).2 (own_ne h1 HS7.out.box t1 hk) (own_apart h1 HS7.out.chs t2 hk)
    have hP := HS7.out.pushed (w' := WF) (x := ⟨x.kind, x.args, s.e, x.id, x.pc, x.cut, x.mark, x.top, mx, x.alts, x.data⟩) (va := .slice Va x.args.length da) (vb := .slice Vb x.alts.length db) (vc' := .slice (some ⟨gD, 0, none⟩) (s.chs.length + 1) e8) (b := w.heap.size) HFL.out
      (fun v hv k hk => by
        obtain ⟨t, size, n, xs, h1, t1, t2⟩ := HS7.out.typed hv
        exact hz k (h1.lt k hk).2 (own_ne h1 HS7.out.box t1 hk) (own_apart h1 HS7.out.chs t2 hk))
      (by simpa using hbF) (own_stay ho8 fun k hk => huF.block k (own_ne ho8 k8 (by decide) hk))
      (own_base (hrow HVA7.out (by decide) (by decide)) (Nat.le_trans hBw HB.out.size)) (own_base (hrow HVB7.out (by decide) (by decide)) (Nat.le_trans hBw (Nat.le_trans HB.out.size hw1)))
      (fun k hk => Nat.le_trans HB.out.size (HVA7.out.lt k hk).1) (fun k hk => Nat.le_trans (Nat.le_trans HB.out.size hw1) (HVB7.out.lt k hk).1)
    have HP := Lib.hid hP
    go_wp2_with fail
    go_ret
    have hsub : ∀ k ∈ foot p ve (.slice (some ⟨gD, 0, none⟩) (s.chs.length + 1) e8) ys (cs ++ [(.slice Va x.args.length da, .slice Vb x.alts.length db)]), k ∈ foot p ve (.slice A' s.chs.length c') ys cs ∨ w.heap.size ≤ k := fun k hk => by
      have hwX : w.heap.size ≤ X7.heap.size := HB7.out.size
      rcases List.mem_cons.1 hk with rfl | hk
      · exact .inl List.mem_cons_self
      · obtain ⟨v, hv, e⟩ := List.mem_filterMap.1 hk
        simp only [List.map_append, List.map_cons, List.map_nil, List.cons_append, List.mem_cons, List.mem_append, List.not_mem_nil, or_false] at hv
        rcases hv with rfl | rfl | ((hv | hv | rfl) | hv | rfl)
        · exact .inl (foot_mem (by simp) e)
        · have e : gD = k := by simpa [Value.ownBlock] using e
          subst e
          rcases hat8 with h8 | h8
          · exact .inl (foot_mem (v := .slice A' s.chs.length c') (by simp) h8)
          · simp at h8
            exact .inr (by omega)
        · exact .inl (foot_mem (by simp [hv]) e)
        · exact .inl (foot_mem (List.mem_append_left _ (List.mem_append_right _ hv)) e)
        · exact .inr (Nat.le_trans HB.out.size (HVA7.out.lt k e).1)
        · exact .inl (foot_mem (List.mem_append_right _ hv) e)
        · exact .inr (Nat.le_trans (Nat.le_trans HB.out.size hw1) (HVB7.out.lt k e).1)
    have hKF : Kept (foot p ve (.slice A' s.chs.length c') ys cs) w WF := by
      refine ⟨huF.os.trans (hg8.os.trans HB7.out.os), huF.tape.trans (hg8.tape.trans HB7.out.tape), huF.output.trans (hg8.output.trans HB7.out.output), ?_, fun k hk hf => (hz k (Nat.lt_of_lt_of_le hk HB7.out.size) (fun e => hf (e ▸ List.mem_cons_self)) (fun e => hf (foot_mem (by simp) e.symm))).trans (HB7.out.block k hk)⟩
      rw [huF.size]
      have h1 := hg8.size
      have h2 := HB7.out.size
      simp at h1
      omega
    rw [← hmx.out]
    exact ⟨rfl, ⟨_, _, _, _, HP.out, hsub⟩, hKF⟩
end Go.Proofs.Ytpkpffnabcgcbaa
