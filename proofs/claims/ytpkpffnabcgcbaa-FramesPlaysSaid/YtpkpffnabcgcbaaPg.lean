/-
  The reference's Push.
-/
import Derived.Test.YtpkpffnabcgcbaaPba
import Derived.Test.YtpkpffnabcgcbaaFz
namespace Go.Proofs.Ytpkpffnabcgcbaa
open Go.RowKit

set_option maxHeartbeats 8000000 in
theorem Push_any {B p : Nat} {s : St} {x : Ch} {Aa Ab : Option Addr} {ca cb : Nat} {ve vc : Value} {ys : List Value} {cs : List (Value × Value)} (w : World) (h : Stk w B p s ve vc ys cs) (hnc : s.chs.length ≤ 1000000000000)
    (hca : CapOk Aa x.args.length ca) (hra : CellsAt w Aa x.args) (hla : x.args.length ≤ 8796093022208) (hcb : CapOk Ab x.alts.length cb) (hrb : IntsAt w Ab x.alts) (hlb : x.alts.length ≤ 17592186044416) :
    Calls Try.prog 48 #[.pointer (some ⟨p, 0, none⟩), chV x (.slice Aa x.args.length ca, .slice Ab x.alts.length cb)] w (RetP B p (foot p ve vc ys cs) (.int .i64 (errOf (pushV s x))) (stOf s (pushV s x)) w) := by
  obtain ⟨i1, hi1, hz1, hy1, hb1'⟩ := info_parts info29
  have hBw : B ≤ w.heap.size := Nat.le_of_lt (Nat.lt_of_le_of_lt h.low h.box.lt)
  obtain ⟨A', c', rfl, hcap'⟩ := own_form h.chs
  obtain ⟨W, HW⟩ : ∃ W, Hid (W = w.alloc (.cells #[.int .i64 x.kind, .slice Aa x.args.length ca, .int .i64 x.env, .int .i64 x.id, .int .i64 x.pc, .int .i64 x.cut, .int .i64 x.mark, .int .i64 x.top, .int .i64 x.envs, .slice Ab x.alts.length cb, .int .i64 x.data] 29)) := ⟨_, rfl⟩
  have hbW : Below w.heap.size w W := by rw [HW.out]; exact bAlloc _ _
  obtain ⟨q, hq⟩ : ∃ q, Hid (q = w.heap.size) := ⟨_, rfl⟩
  have hkW : Blk W q 29 #[.int .i64 x.kind, .slice Aa x.args.length ca, .int .i64 x.env, .int .i64 x.id, .int .i64 x.pc, .int .i64 x.cut, .int .i64 x.mark, .int .i64 x.top, .int .i64 x.envs, .slice Ab x.alts.length cb, .int .i64 x.data] := by rw [HW.out, hq.out]; exact Blk.new _ _ _
  have HFL := Lib.hid h.foot_lt
  have HS := Lib.hid (h.next hbW)
  have HB := Lib.hid hbW
  have HK := Lib.hid hkW
  have HOWN := Lib.hid (ownChoice_any Aa Ab ca cb x W hca hcb (hra.next hbW) (hrb.next hbW) hla hlb)
  obtain ⟨c0, c1, c2⟩ := HS.out.cells
  have hl := HS.out.box.lt
  have hqw : w.heap.size ≤ q := by rw [hq.out]; exact Nat.le_refl _
  have hqW : q < W.heap.size := HK.out.lt
  have hfl : ∀ g ∈ foot p ve (.slice A' s.chs.length c') ys cs, g ≠ q := fun g hg e => by have := HFL.out g hg; omega
  have hpq : p ≠ q := hfl p List.mem_cons_self
  clear h hbW hkW hra hrb hca hcb
  by_cases hfull : 1048576 ≤ s.chs.length
  · have hv : pushV s x = .error 13 := by unfold pushV; rw [if_pos hfull]
    have hfi : (1048576 : Int) ≤ (s.chs.length : Int) := by omega
    rw [hv]
    go_enter Try.func48, Try.ntmps48
    go_upto_region 1 with fail
    rw [← HW.out]
    clear HW
    go_wp2_with fail
    go_ret
    exact ⟨rfl, ⟨_, _, _, _, HS.out, fun g hg => .inl hg⟩, Kept.below HB.out⟩
  · have hv : pushV s x = .ok ⟨s.envs, s.e, s.chs ++ [{ x with env := s.e, envs := max s.e (protV s) }]⟩ := by unfold pushV; rw [if_neg hfull]
    have hfi : ¬ (1048576 : Int) ≤ (s.chs.length : Int) := by omega
    rw [hv]
    go_enter Try.func48, Try.ntmps48
    go_upto_region 1 with fail
    rw [← HW.out]
    try rw [← hq.out]
    clear HW
    go_upto_region 5 with fail
    have k0 := HK.out.cell 0
    have k1 := HK.out.cell 1
    have k2 := HK.out.cell 2
    have k3 := HK.out.cell 3
    have k4 := HK.out.cell 4
    have k5 := HK.out.cell 5
    have k6 := HK.out.cell 6
    have k7 := HK.out.cell 7
    have k8 := HK.out.cell 8
    have k9 := HK.out.cell 9
    have k10 := HK.out.cell 10
    simp at k0 k1 k2 k3 k4 k5 k6 k7 k8 k9 k10
    go_wp2_with fail
    refine HOWN.out.mono ?_
    rintro e w1 ⟨⟨va, vb, rfl, hva, hvb⟩, hb1⟩
    obtain ⟨Va, da, rfl, -⟩ := own_form hva
    obtain ⟨Vb, db, rfl, -⟩ := own_form hvb
    have kb := HK.out.next hb1
    clear k0 k1 k2 k3 k4 k5 k6 k7 k8 k9 k10 c0 c1 c2
    have k0 := kb.cell 0
    have f0 := kb.frozen 0
    have k1 := kb.cell 1
    have f1 := kb.frozen 1
    have k2 := kb.cell 2
    have f2 := kb.frozen 2
    have k3 := kb.cell 3
    have f3 := kb.frozen 3
    have k4 := kb.cell 4
    have f4 := kb.frozen 4
    have k5 := kb.cell 5
    have f5 := kb.frozen 5
    have k6 := kb.cell 6
    have f6 := kb.frozen 6
    have k7 := kb.cell 7
    have f7 := kb.frozen 7
    have k8 := kb.cell 8
    have f8 := kb.frozen 8
    have k9 := kb.cell 9
    have f9 := kb.frozen 9
    have k10 := kb.cell 10
    have f10 := kb.frozen 10
    simp at k0 k1 k2 k3 k4 k5 k6 k7 k8 k9 k10
    have kl := kb.lt
    have HVA := Lib.hid hva
    have HVB := Lib.hid hvb
    have HB1 := Lib.hid hb1
    clear hva hvb hb1 HOWN
    go_upto_region 6 with fail
    obtain ⟨W5, HW5⟩ : ∃ X, Hid (X = (((((((((((w1.setCell ⟨q, 0, none⟩ (.int .i64 x.kind)).setCell ⟨q, 1, none⟩ (.slice Va x.args.length da)).setCell ⟨q, 2, none⟩ (.int .i64 x.env)).setCell ⟨q, 3, none⟩ (.int .i64 x.id)).setCell ⟨q, 4, none⟩ (.int .i64 x.pc)).setCell ⟨q, 5, none⟩ (.int .i64 x.cut)).setCell ⟨q, 6, none⟩ (.int .i64 x.mark)).setCell ⟨q, 7, none⟩ (.int .i64 x.top)).setCell ⟨q, 8, none⟩ (.int .i64 x.envs)).setCell ⟨q, 9, none⟩ (.slice Vb x.alts.length db)).setCell ⟨q, 10, none⟩ (.int .i64 x.data))) := ⟨_, rfl⟩
    have hu5 := ((((((((((((Upd.refl q w1).set 0 (.int .i64 x.kind)).set 1 (.slice Va x.args.length da)).set 2 (.int .i64 x.env)).set 3 (.int .i64 x.id)).set 4 (.int .i64 x.pc)).set 5 (.int .i64 x.cut)).set 6 (.int .i64 x.mark)).set 7 (.int .i64 x.top)).set 8 (.int .i64 x.envs)).set 9 (.slice Vb x.alts.length db)).set 10 (.int .i64 x.data))
    have hk5 := (((((((((((kb.set_ 0 (.int .i64 x.kind)).set_ 1 (.slice Va x.args.length da)).set_ 2 (.int .i64 x.env)).set_ 3 (.int .i64 x.id)).set_ 4 (.int .i64 x.pc)).set_ 5 (.int .i64 x.cut)).set_ 6 (.int .i64 x.mark)).set_ 7 (.int .i64 x.top)).set_ 8 (.int .i64 x.envs)).set_ 9 (.slice Vb x.alts.length db)).set_ 10 (.int .i64 x.data))
    rw [← HW5.out] at hu5 hk5 ⊢
    have hk5 : Blk W5 q 29 #[.int .i64 x.kind, .slice Va x.args.length da, .int .i64 x.env, .int .i64 x.id, .int .i64 x.pc, .int .i64 x.cut, .int .i64 x.mark, .int .i64 x.top, .int .i64 x.envs, .slice Vb x.alts.length db, .int .i64 x.data] := by simpa using hk5
    have hs5 := (HS.out.next HB1.out).stayF fun g hg => hu5.block g (hfl g hg)
    have HS5 := Lib.hid hs5
    have HK5 := Lib.hid hk5
    have HU5 := Lib.hid hu5
    obtain ⟨c0, c1, c2⟩ := hs5.cells
    have pl := hs5.box.lt
    have m2 := hk5.cell 2
    have n2 := hk5.frozen 2
    have ql := hk5.lt
    simp at m2
    clear HW5 hu5 hk5 hs5 kb kl k0 f0 k1 f1 k2 f2 k3 f3 k4 f4 k5 f5 k6 f6 k7 f7 k8 f8 k9 f9 k10 f10
    go_upto_region 7 with fail
    obtain ⟨W6, HW6⟩ : ∃ X, Hid (X = W5.setCell ⟨q, 2, none⟩ (.int .i64 s.e)) := ⟨_, rfl⟩
    have hu6 := HU5.out.trans ((Upd.refl q W5).set 2 (.int .i64 s.e))
    have hu56 := (Upd.refl q W5).set 2 (.int .i64 s.e)
    have hk6 := HK5.out.set_ 2 (.int .i64 s.e)
    rw [← HW6.out] at hu6 hu56 hk6 ⊢
    have hk6 : Blk W6 q 29 #[.int .i64 x.kind, .slice Va x.args.length da, .int .i64 s.e, .int .i64 x.id, .int .i64 x.pc, .int .i64 x.cut, .int .i64 x.mark, .int .i64 x.top, .int .i64 x.envs, .slice Vb x.alts.length db, .int .i64 x.data] := by simpa using hk6
    have hs6 := HS5.out.stayF fun g hg => hu56.block g (hfl g hg)
    obtain ⟨X0, HX⟩ : ∃ X, Hid (X = W6.drew) := ⟨_, rfl⟩
    have hd0 : Below W6.heap.size W6 X0 := by rw [HX.out]; exact bDrew W6
    have H0 := Lib.hid (hs6.next hd0)
    have K0 := Lib.hid (hk6.next hd0)
    have HU6 := Lib.hid hu6
    have HD0 := Lib.hid hd0
    clear HW6 c0 c1 c2 m2 n2 hu56 hk6 hs6 HS5 HK5 HU5 hu6 hd0
    refine wp_region_N (fun w' => Blk w' p 25 #[ve, .int .i64 s.e, .slice A' s.chs.length c']) (fun j => decide (j < 10)) (by kernel_rfl) ?_
    rw [← HX.out]
    clear HX
    have hS0 : (fun w' => Blk w' p 25 #[ve, .int .i64 s.e, .slice A' s.chs.length c']) X0 := H0.out.box
    refine wpAnyN_take (i := 0) (v := ?v1) rfl (by kernel_rfl) (by kernel_rfl) (by kernel_rfl) (by kernel_rfl) (fun _ _ _ h => h) (Or.inl ⟨by rfl, ?hy1⟩) (by assumption) ?_
    case hy1 => intro w hSw; have e0 := hSw.cell 0; have e1 := hSw.cell 1; have e2 := hSw.cell 2; have el := hSw.lt; simp at e0 e1 e2; go_simp; try with_reducible rfl
    simp only [Act.put, List.getElem_toArray, List.getElem_cons_zero, List.setIfInBounds_toArray, List.set_cons_zero, List.set_cons_succ]
    refine wpAnyN_take (i := 1) (v := ?v2) rfl (by kernel_rfl) (by kernel_rfl) (by kernel_rfl) (by kernel_rfl) (fun _ _ _ h => h) (Or.inl ⟨by rfl, ?hy2⟩) (by assumption) ?_
    case hy2 => intro w hSw; have e0 := hSw.cell 0; have e1 := hSw.cell 1; have e2 := hSw.cell 2; have el := hSw.lt; simp at e0 e1 e2; go_simp; try with_reducible rfl
    simp only [Act.put, List.getElem_toArray, List.getElem_cons_zero, List.getElem_cons_succ, List.setIfInBounds_toArray, List.set_cons_zero, List.set_cons_succ]
    refine wpAnyN_take (i := 2) (v := ?v3) rfl (by kernel_rfl) (by kernel_rfl) (by kernel_rfl) (by kernel_rfl) (fun _ _ _ h => h) (Or.inl ⟨by rfl, ?hy3⟩) (by assumption) ?_
    case hy3 => intro w hSw; have e0 := hSw.cell 0; have e1 := hSw.cell 1; have e2 := hSw.cell 2; have el := hSw.lt; simp at e0 e1 e2; go_simp; try with_reducible rfl
    simp only [Act.put, List.getElem_toArray, List.getElem_cons_zero, List.getElem_cons_succ, List.setIfInBounds_toArray, List.set_cons_zero, List.set_cons_succ]
    refine wpAnyN_take (i := 3) (v := ?v4) rfl (by kernel_rfl) (by kernel_rfl) (by kernel_rfl) (by kernel_rfl) (fun _ _ _ h => h) (Or.inl ⟨by rfl, ?hy4⟩) (by assumption) ?_
    case hy4 => intro w hSw; have e0 := hSw.cell 0; have e1 := hSw.cell 1; have e2 := hSw.cell 2; have el := hSw.lt; simp at e0 e1 e2; go_simp; try with_reducible rfl
    simp only [Act.put, List.getElem_toArray, List.getElem_cons_zero, List.getElem_cons_succ, List.setIfInBounds_toArray, List.set_cons_zero, List.set_cons_succ]
    refine wpAnyN_take (i := 4) (v := ?v5) rfl (by kernel_rfl) (by kernel_rfl) (by kernel_rfl) (by kernel_rfl) (fun _ _ _ h => h) (Or.inl ⟨by rfl, ?hy5⟩) (by assumption) ?_
    case hy5 => intro w hSw; have e0 := hSw.cell 0; have e1 := hSw.cell 1; have e2 := hSw.cell 2; have el := hSw.lt; simp at e0 e1 e2; go_simp; try with_reducible rfl
    simp only [Act.put, List.getElem_toArray, List.getElem_cons_zero, List.getElem_cons_succ, List.setIfInBounds_toArray, List.set_cons_zero, List.set_cons_succ]
    refine wpAnyN_take (i := 5) (v := ?v6) rfl (by kernel_rfl) (by kernel_rfl) (by kernel_rfl) (by kernel_rfl) (fun _ _ _ h => h) (Or.inl ⟨by rfl, ?hy6⟩) (by assumption) ?_
    case hy6 => intro w hSw; have e0 := hSw.cell 0; have e1 := hSw.cell 1; have e2 := hSw.cell 2; have el := hSw.lt; simp at e0 e1 e2; go_simp; try with_reducible rfl
    simp only [Act.put, List.getElem_toArray, List.getElem_cons_zero, List.getElem_cons_succ, List.setIfInBounds_toArray, List.set_cons_zero, List.set_cons_succ]
    refine wpAnyN_take (i := 6) (v := ?v7) rfl (by kernel_rfl) (by kernel_rfl) (by kernel_rfl) (by kernel_rfl) (fun _ _ _ h => h) (Or.inl ⟨by rfl, ?hy7⟩) (by assumption) ?_
    case hy7 => intro w hSw; have e0 := hSw.cell 0; have e1 := hSw.cell 1; have e2 := hSw.cell 2; have el := hSw.lt; simp at e0 e1 e2; go_simp; try with_reducible rfl
    simp only [Act.put, List.getElem_toArray, List.getElem_cons_zero, List.getElem_cons_succ, List.setIfInBounds_toArray, List.set_cons_zero, List.set_cons_succ]
    refine wpAnyN_one (i := 7) (by kernel_rfl) rfl (fun K hK => ?_)
    simp only [List.getElem_toArray, List.getElem_cons_zero, List.getElem_cons_succ]
    go_simp
    refine (Height_any X0 H0.out hnc).mono ?_
    rintro e w5 ⟨rfl, hb5⟩
    have H5 := Lib.hid (H0.out.next hb5)
    have K5 := Lib.hid (K0.out.next hb5)
    have HB5 := Lib.hid hb5
    have hS1 : (fun w' => Blk w' p 25 #[ve, .int .i64 s.e, .slice A' s.chs.length c']) w5 := H5.out.box
    clear hb5
    refine hK _ _ (fun _ => hS1) ?_
    (try simp only [Act.put, List.setIfInBounds_toArray, List.set_cons_zero, List.set_cons_succ])
    refine wpAnyN_one (i := 8) (by kernel_rfl) rfl (fun K hK => ?_)
    simp only [List.getElem_toArray, List.getElem_cons_zero, List.getElem_cons_succ]
    go_simp
    refine (greater_any s.e (protV s) w5).mono ?_
    rintro e w6 ⟨rfl, rfl⟩
    obtain ⟨mx, hmx⟩ : ∃ mx, Hid (mx = max s.e (protV s)) := ⟨_, rfl⟩
    rw [← hmx.out]
    refine hK _ _ (fun _ => hS1) ?_
    (try simp only [Act.put, List.setIfInBounds_toArray, List.set_cons_zero, List.set_cons_succ])
    refine wpAnyN_take (i := 9) (v := ?v8) rfl (by kernel_rfl) (by kernel_rfl) (by kernel_rfl) (by kernel_rfl) (fun _ _ _ h => h) (Or.inl ⟨by rfl, ?hy8⟩) (by assumption) ?_
    case hy8 => intro w hSw; have e0 := hSw.cell 0; have e1 := hSw.cell 1; have e2 := hSw.cell 2; have el := hSw.lt; simp at e0 e1 e2; go_simp; try with_reducible rfl
    simp only [Act.put, List.getElem_toArray, List.getElem_cons_zero, List.getElem_cons_succ, List.setIfInBounds_toArray, List.set_cons_zero, List.set_cons_succ]
    refine wpAnyN_one (i := 10) (by kernel_rfl) rfl (fun K hK => ?_)
    simp only [List.getElem_toArray, List.getElem_cons_zero, List.getElem_cons_succ]
    go_simp
    have kb := K5.out
    have g8 := kb.cell 8
    have f8 := kb.frozen 8
    have kl := kb.lt
    simp at g8
    go_simp
    refine hK _ _ (fun h => absurd h (by decide)) ?_
    (try simp only [Act.put, List.setIfInBounds_toArray, List.set_cons_zero, List.set_cons_succ])
    refine wpAnyN_done (by kernel_rfl) ?_ _
    have hu5 := (Upd.refl q w6).set 8 (.int .i64 mx)
    have hk5 := kb.set_ 8 (.int .i64 mx)
    obtain ⟨W6', HW6⟩ : ∃ X, Hid (X = w6.setCell ⟨q, 8, none⟩ (.int .i64 mx)) := ⟨_, rfl⟩
    rw [← HW6.out] at hu5 hk5 ⊢
    have HK6 := Lib.hid (show Blk W6' q 29 #[.int .i64 x.kind, .slice Va x.args.length da, .int .i64 s.e, .int .i64 x.id, .int .i64 x.pc, .int .i64 x.cut, .int .i64 x.mark, .int .i64 x.top, .int .i64 mx, .slice Vb x.alts.length db, .int .i64 x.data] by simpa using hk5)
    have HS6 := Lib.hid (H5.out.stayF fun g hg => hu5.block g (hfl g hg))
    have hbb : ∀ {t size n : Nat} {v : Value} {xs : List Value}, w1.ownsRow W.heap.size t size v n xs → W6'.ownsRow W.heap.size t size v n xs := fun h1 => own_stay h1 fun k hk => by
      have k1 := h1.lt k hk
      have kq : k ≠ q := by omega
      have s6 : W6.heap.size = w1.heap.size := HU6.out.size
      have sx : W6.heap.size ≤ X0.heap.size := HD0.out.size
      exact (((hu5.block k kq).trans (HB5.out.block k (by omega))).trans (HD0.out.block k (by omega))).trans (HU6.out.block k kq)
    have HVA6 := Lib.hid (hbb HVA.out)
    have HVB6 := Lib.hid (hbb HVB.out)
    have HB6 : Hid (Below w.heap.size w W6') := Lib.hid (hu5.below (bNext (bNext (HU6.out.below (bNext HB.out HB1.out) hqw) HD0.out) HB5.out) hqw)
    have hw1 : W.heap.size ≤ W.heap.size := Nat.le_refl _
    clear HW6 hu5 hk5 kb g8 f8 kl hS0 hS1 H5 K5 H0 K0 HVA HVB HB1 HB5 HD0 HU6 hbb
    go_upto_region 8 with fail
    obtain ⟨X7, HX7⟩ : ∃ X, Hid (X = W6'.drew) := ⟨_, rfl⟩
    have hd6 : Below W6'.heap.size W6' X7 := by rw [HX7.out]; exact bDrew W6'
    have HS7 := Lib.hid (HS6.out.next hd6)
    have HK7 := Lib.hid (HK6.out.next hd6)
    have HVA7 := Lib.hid (own_stay (w' := X7) HVA6.out fun k hk => hd6.block k (HVA6.out.lt k hk).2)
    have HVB7 := Lib.hid (own_stay (w' := X7) HVB6.out fun k hk => hd6.block k (HVB6.out.lt k hk).2)
    have HB7 := Lib.hid (bNext HB6.out hd6)
    refine wp_region_N (fun w' => Blk w' p 25 #[ve, .int .i64 s.e, .slice A' s.chs.length c'] ∧ Blk w' q 29 #[.int .i64 x.kind, .slice Va x.args.length da, .int .i64 s.e, .int .i64 x.id, .int .i64 x.pc, .int .i64 x.cut, .int .i64 x.mark, .int .i64 x.top, .int .i64 mx, .slice Vb x.alts.length db, .int .i64 x.data]) (fun j => decide (j < 8)) (by kernel_rfl) ?_
    rw [← HX7.out]
    clear HX7 hd6 HS6 HK6 HVA6 HVB6 HB6
    have hS0 : (fun w' => Blk w' p 25 #[ve, .int .i64 s.e, .slice A' s.chs.length c'] ∧ Blk w' q 29 #[.int .i64 x.kind, .slice Va x.args.length da, .int .i64 s.e, .int .i64 x.id, .int .i64 x.pc, .int .i64 x.cut, .int .i64 x.mark, .int .i64 x.top, .int .i64 mx, .slice Vb x.alts.length db, .int .i64 x.data]) X7 := ⟨HS7.out.box, HK7.out⟩
    refine wpAnyN_take (i := 0) (v := ?v9) rfl (by kernel_rfl) (by kernel_rfl) (by kernel_rfl) (by kernel_rfl) (fun _ _ _ h => h) (Or.inl ⟨by rfl, ?hy9⟩) (by assumption) ?_
    case hy9 => intro w hSw; obtain ⟨hsp, hsq⟩ := hSw; have e2 := hsp.cell 2; have i0 := hsq.cell 0; have i1 := hsq.cell 1; have i2 := hsq.cell 2; have i3 := hsq.cell 3; have i4 := hsq.cell 4; have i5 := hsq.cell 5; have i6 := hsq.cell 6; have i7 := hsq.cell 7; have i8 := hsq.cell 8; have i9 := hsq.cell 9; have i10 := hsq.cell 10; simp at e2 i0 i1 i2 i3 i4 i5 i6 i7 i8 i9 i10; go_simp; try with_reducible rfl
    simp only [Act.put, List.getElem_toArray, List.getElem_cons_zero, List.setIfInBounds_toArray, List.set_cons_zero, List.set_cons_succ]
    refine wpAnyN_take (i := 1) (v := ?v10) rfl (by kernel_rfl) (by kernel_rfl) (by kernel_rfl) (by kernel_rfl) (fun _ _ _ h => h) (Or.inl ⟨by rfl, ?hy10⟩) (by assumption) ?_
    case hy10 => intro w hSw; obtain ⟨hsp, hsq⟩ := hSw; have e2 := hsp.cell 2; have i0 := hsq.cell 0; have i1 := hsq.cell 1; have i2 := hsq.cell 2; have i3 := hsq.cell 3; have i4 := hsq.cell 4; have i5 := hsq.cell 5; have i6 := hsq.cell 6; have i7 := hsq.cell 7; have i8 := hsq.cell 8; have i9 := hsq.cell 9; have i10 := hsq.cell 10; simp at e2 i0 i1 i2 i3 i4 i5 i6 i7 i8 i9 i10; go_simp; try with_reducible rfl
    simp only [Act.put, List.getElem_toArray, List.getElem_cons_zero, List.getElem_cons_succ, List.setIfInBounds_toArray, List.set_cons_zero, List.set_cons_succ]
    refine wpAnyN_take (i := 2) (v := ?v11) rfl (by kernel_rfl) (by kernel_rfl) (by kernel_rfl) (by kernel_rfl) (fun _ _ _ h => h) (Or.inl ⟨by rfl, ?hy11⟩) (by assumption) ?_
    case hy11 => intro w hSw; obtain ⟨hsp, hsq⟩ := hSw; have e2 := hsp.cell 2; have i0 := hsq.cell 0; have i1 := hsq.cell 1; have i2 := hsq.cell 2; have i3 := hsq.cell 3; have i4 := hsq.cell 4; have i5 := hsq.cell 5; have i6 := hsq.cell 6; have i7 := hsq.cell 7; have i8 := hsq.cell 8; have i9 := hsq.cell 9; have i10 := hsq.cell 10; simp at e2 i0 i1 i2 i3 i4 i5 i6 i7 i8 i9 i10; go_simp; try with_reducible rfl
    simp only [Act.put, List.getElem_toArray, List.getElem_cons_zero, List.getElem_cons_succ, List.setIfInBounds_toArray, List.set_cons_zero, List.set_cons_succ]
    refine wpAnyN_take (i := 3) (v := ?v12) rfl (by kernel_rfl) (by kernel_rfl) (by kernel_rfl) (by kernel_rfl) (fun _ _ _ h => h) (Or.inl ⟨by rfl, ?hy12⟩) (by assumption) ?_
    case hy12 => intro w hSw; obtain ⟨hsp, hsq⟩ := hSw; have e2 := hsp.cell 2; have i0 := hsq.cell 0; have i1 := hsq.cell 1; have i2 := hsq.cell 2; have i3 := hsq.cell 3; have i4 := hsq.cell 4; have i5 := hsq.cell 5; have i6 := hsq.cell 6; have i7 := hsq.cell 7; have i8 := hsq.cell 8; have i9 := hsq.cell 9; have i10 := hsq.cell 10; simp at e2 i0 i1 i2 i3 i4 i5 i6 i7 i8 i9 i10; go_simp; try with_reducible rfl
    simp only [Act.put, List.getElem_toArray, List.getElem_cons_zero, List.getElem_cons_succ, List.setIfInBounds_toArray, List.set_cons_zero, List.set_cons_succ]
    refine wpAnyN_take (i := 4) (v := ?v13) rfl (by kernel_rfl) (by kernel_rfl) (by kernel_rfl) (by kernel_rfl) (fun _ _ _ h => h) (Or.inl ⟨by rfl, ?hy13⟩) (by assumption) ?_
    case hy13 => intro w hSw; obtain ⟨hsp, hsq⟩ := hSw; have e2 := hsp.cell 2; have i0 := hsq.cell 0; have i1 := hsq.cell 1; have i2 := hsq.cell 2; have i3 := hsq.cell 3; have i4 := hsq.cell 4; have i5 := hsq.cell 5; have i6 := hsq.cell 6; have i7 := hsq.cell 7; have i8 := hsq.cell 8; have i9 := hsq.cell 9; have i10 := hsq.cell 10; simp at e2 i0 i1 i2 i3 i4 i5 i6 i7 i8 i9 i10; go_simp; try with_reducible rfl
    simp only [Act.put, List.getElem_toArray, List.getElem_cons_zero, List.getElem_cons_succ, List.setIfInBounds_toArray, List.set_cons_zero, List.set_cons_succ]
    refine wpAnyN_take (i := 5) (v := ?v14) rfl (by kernel_rfl) (by kernel_rfl) (by kernel_rfl) (by kernel_rfl) (fun _ _ _ h => h) (Or.inl ⟨by rfl, ?hy14⟩) (by assumption) ?_
    case hy14 => intro w hSw; obtain ⟨hsp, hsq⟩ := hSw; have e2 := hsp.cell 2; have i0 := hsq.cell 0; have i1 := hsq.cell 1; have i2 := hsq.cell 2; have i3 := hsq.cell 3; have i4 := hsq.cell 4; have i5 := hsq.cell 5; have i6 := hsq.cell 6; have i7 := hsq.cell 7; have i8 := hsq.cell 8; have i9 := hsq.cell 9; have i10 := hsq.cell 10; simp at e2 i0 i1 i2 i3 i4 i5 i6 i7 i8 i9 i10; go_simp; try with_reducible rfl
    simp only [Act.put, List.getElem_toArray, List.getElem_cons_zero, List.getElem_cons_succ, List.setIfInBounds_toArray, List.set_cons_zero, List.set_cons_succ]
    refine wpAnyN_one (i := 6) (by kernel_rfl) rfl (fun K hK => ?_)
    simp only [List.getElem_toArray, List.getElem_cons_zero, List.getElem_cons_succ]
    go_simp
    refine hK _ _ (fun _ => ⟨hS0.1.alloc _, hS0.2.alloc _⟩) ?_
    (try simp only [Act.put, List.setIfInBounds_toArray, List.set_cons_zero, List.set_cons_succ])
    have hX7 : B ≤ X7.heap.size := Nat.le_trans hBw HB7.out.size
    refine wpAnyN_one (i := 7) (by kernel_rfl) rfl (fun K hK => ?_)
    simp only [List.getElem_toArray, List.getElem_cons_zero, List.getElem_cons_succ]
    rw [if_pos (by rfl)]
    have hblk := Blk.new X7 29 #[.int .i64 x.kind, .slice Va x.args.length da, .int .i64 s.e, .int .i64 x.id, .int .i64 x.pc, .int .i64 x.cut, .int .i64 x.mark, .int .i64 x.top, .int .i64 mx, .slice Vb x.alts.length db, .int .i64 x.data]
    refine wp_append_lies _ (.tmp 34) (.tmp 36) 23 rfl B 29 i1 _ 11 120 Try.underlying23 hi1 hz1 hy1 hb1' rfl (by decide) (.slice A' s.chs.length c') s.chs.length (hCs s.chs cs) rfl (HS7.out.chs.alloc _) ⟨X7.heap.size, 0, none⟩ 1 1 (hCs [⟨x.kind, x.args, s.e, x.id, x.pc, x.cut, x.mark, x.top, mx, x.alts, x.data⟩] [(.slice Va x.args.length da, .slice Vb x.alts.length db)]) rfl ?c1 ?c2 ?c3 (by omega) ?c4 ?c5 ?c6 _ rfl ?_
    case c1 => rfl
    case c2 =>
      intro j u hj
      have h := hblk.cell j
      have e : (⟨X7.heap.size, 0, none⟩ : Addr).add j = ⟨X7.heap.size, j, none⟩ := by cases j <;> simp [Addr.add]
      rw [e]
      exact h.trans (by simpa [hCs] using hj)
    case c3 =>
      intro u hu
      simp only [hCs, List.mem_cons, List.not_mem_nil, or_false] at hu
      rcases hu with rfl | rfl | rfl | rfl | rfl | rfl | rfl | rfl | rfl | rfl | rfl <;> rfl
    case c4 => unfold maxLen; omega
    case c5 => omega
    case c6 => simp; omega
    intro gD e8 w8 ho8 hg8 hat8 hlt8
    have hgp : Value.ownBlock (.slice A' s.chs.length c') ≠ some p := fun e => own_ne HS7.out.chs HS7.out.box (by decide) e rfl
    have k8 : Blk w8 p 25 _ := Blk.grown (w := X7.alloc (.cells #[.int .i64 x.kind, .slice Va x.args.length da, .int .i64 s.e, .int .i64 x.id, .int .i64 x.pc, .int .i64 x.cut, .int .i64 x.mark, .int .i64 x.top, .int .i64 mx, .slice Vb x.alts.length db, .int .i64 x.data] 29)) (HS7.out.box.alloc _) hg8 hgp
    have f2 := k8.frozen 2
    have g2 := k8.cell 2
    have l8 := k8.lt
    simp at g2
    have hgq : Value.ownBlock (.slice A' s.chs.length c') ≠ some q := fun e => hfl q (foot_mem (by simp) e) rfl
    have kq8 : Blk w8 q 29 _ := Blk.grown (w := X7.alloc (.cells #[.int .i64 x.kind, .slice Va x.args.length da, .int .i64 s.e, .int .i64 x.id, .int .i64 x.pc, .int .i64 x.cut, .int .i64 x.mark, .int .i64 x.top, .int .i64 mx, .slice Vb x.alts.length db, .int .i64 x.data] 29)) (HK7.out.alloc _) hg8 hgq
    refine hK _ _ (fun _ => ⟨k8, kq8⟩) ?_
    (try simp only [Act.put, List.setIfInBounds_toArray, List.set_cons_zero, List.set_cons_succ])
    refine wpAnyN_one (i := 8) (by kernel_rfl) rfl (fun K hK => ?_)
    simp only [List.getElem_toArray, List.getElem_cons_zero, List.getElem_cons_succ]
    go_simp
    refine hK _ _ (fun h => absurd h (by decide)) ?_
    (try simp only [Act.put, List.setIfInBounds_toArray, List.set_cons_zero, List.set_cons_succ])
    refine wpAnyN_one (i := 9) (by kernel_rfl) rfl (fun K hK => ?_)
    simp only [List.getElem_toArray, List.getElem_cons_zero, List.getElem_cons_succ]
    go_simp
    refine hK _ _ (fun h => absurd h (by decide)) ?_
    (try simp only [Act.put, List.setIfInBounds_toArray, List.set_cons_zero, List.set_cons_succ])
    refine wpAnyN_one (i := 10) (by kernel_rfl) rfl (fun K hK => ?_)
    simp only [List.getElem_toArray, List.getElem_cons_zero, List.getElem_cons_succ]
    go_simp
    refine hK _ _ (fun h => absurd h (by decide)) ?_
    (try simp only [Act.put, List.setIfInBounds_toArray, List.set_cons_zero, List.set_cons_succ])
    refine wpAnyN_done (by kernel_rfl) ?_ _
    have hbF := k8.set_ 2 (.slice (some ⟨gD, 0, none⟩) (s.chs.length + 1) e8)
    have huF := (Upd.refl p w8).set 2 (.slice (some ⟨gD, 0, none⟩) (s.chs.length + 1) e8)
    obtain ⟨WF, HWF⟩ : ∃ X, Hid (X = w8.setCell ⟨p, 2, none⟩ (.slice (some ⟨gD, 0, none⟩) (s.chs.length + 1) e8)) := ⟨_, rfl⟩
    rw [← HWF.out] at hbF huF ⊢
    have hz : ∀ k, k < X7.heap.size → k ≠ p → some k ≠ Value.ownBlock (.slice A' s.chs.length c') → WF.heap[k]? = X7.heap[k]? := fun k h1 h2 h3 =>
      (huF.block k h2).trans ((hg8.block k (by simp; omega) h3).trans (Below.heap_alloc X7 _ k h1))
    have hrow : ∀ {t size n B' : Nat} {v : Value} {xs : List Value}, X7.ownsRow B' t size v n xs → t ≠ 25 → t ≠ 29 → WF.ownsRow B' t size v n xs := fun h1 t1 t2 =>
      own_stay h1 fun k hk => hz k (h1.lt k hk).2 (own_ne h1 HS7.out.box t1 hk) (own_apart h1 HS7.out.chs t2 hk)
    have hP := HS7.out.pushed (w' := WF) (x := ⟨x.kind, x.args, s.e, x.id, x.pc, x.cut, x.mark, x.top, mx, x.alts, x.data⟩) (va := .slice Va x.args.length da) (vb := .slice Vb x.alts.length db) (vc' := .slice (some ⟨gD, 0, none⟩) (s.chs.length + 1) e8) (b := w.heap.size) HFL.out
      (fun v hv k hk => by
        obtain ⟨t, size, n, xs, h1, t1, t2⟩ := HS7.out.typed hv
        exact hz k (h1.lt k hk).2 (own_ne h1 HS7.out.box t1 hk) (own_apart h1 HS7.out.chs t2 hk))
      (by simpa using hbF) (own_stay ho8 fun k hk => huF.block k (own_ne ho8 k8 (by decide) hk))
      (own_base (hrow HVA7.out (by decide) (by decide)) (Nat.le_trans hBw HB.out.size)) (own_base (hrow HVB7.out (by decide) (by decide)) (Nat.le_trans hBw (Nat.le_trans HB.out.size hw1)))
      (fun k hk => Nat.le_trans HB.out.size (HVA7.out.lt k hk).1) (fun k hk => Nat.le_trans (Nat.le_trans HB.out.size hw1) (HVB7.out.lt k hk).1)
    have HP := Lib.hid hP
    go_wp2_with fail
    go_ret
    have hsub : ∀ k ∈ foot p ve (.slice (some ⟨gD, 0, none⟩) (s.chs.length + 1) e8) ys (cs ++ [(.slice Va x.args.length da, .slice Vb x.alts.length db)]), k ∈ foot p ve (.slice A' s.chs.length c') ys cs ∨ w.heap.size ≤ k := fun k hk => by
      have hwX : w.heap.size ≤ X7.heap.size := HB7.out.size
      rcases List.mem_cons.1 hk with rfl | hk
      · exact .inl List.mem_cons_self
      · obtain ⟨v, hv, e⟩ := List.mem_filterMap.1 hk
        simp only [List.map_append, List.map_cons, List.map_nil, List.cons_append, List.mem_cons, List.mem_append, List.not_mem_nil, or_false] at hv
        rcases hv with rfl | rfl | ((hv | hv | rfl) | hv | rfl)
        · exact .inl (foot_mem (by simp) e)
        · have e : gD = k := by simpa [Value.ownBlock] using e
          subst e
          rcases hat8 with h8 | h8
          · exact .inl (foot_mem (v := .slice A' s.chs.length c') (by simp) h8)
          · simp at h8
            exact .inr (by omega)
        · exact .inl (foot_mem (by simp [hv]) e)
        · exact .inl (foot_mem (List.mem_append_left _ (List.mem_append_right _ hv)) e)
        · exact .inr (Nat.le_trans HB.out.size (HVA7.out.lt k e).1)
        · exact .inl (foot_mem (List.mem_append_right _ hv) e)
        · exact .inr (Nat.le_trans (Nat.le_trans HB.out.size hw1) (HVB7.out.lt k e).1)
    have hKF : Kept (foot p ve (.slice A' s.chs.length c') ys cs) w WF := by
      refine ⟨huF.os.trans (hg8.os.trans HB7.out.os), huF.tape.trans (hg8.tape.trans HB7.out.tape), huF.output.trans (hg8.output.trans HB7.out.output), ?_, fun k hk hf => (hz k (Nat.lt_of_lt_of_le hk HB7.out.size) (fun e => hf (e ▸ List.mem_cons_self)) (fun e => hf (foot_mem (by simp) e.symm))).trans (HB7.out.block k hk)⟩
      rw [huF.size]
      have h1 := hg8.size
      have h2 := HB7.out.size
      simp at h1
      omega
    rw [← hmx.out]
    exact ⟨rfl, ⟨_, _, _, _, HP.out, hsub⟩, hKF⟩
end Go.Proofs.Ytpkpffnabcgcbaa
