/-
  The walk of the law's Do, the popped rows apart.
-/
import Derived.Test.YtpkpffnabcgcbaaPk
import Derived.Test.YtpkpffnabcgcbaaVg
namespace Go.Proofs.Ytpkpffnabcgcbaa
open Go.RowKit

/-- the outcome in its block, the stacks, the popped rows apart, what stays: where the switch ends -/
def DoMO (q B p : Nat) (F : List Nat) (b : Nat) (st : St) (o : Ov) (w wx : World) : Prop := ∃ A1 a1 c1 A2 a2 c2, Blk wx q 42 #[.int .i64 o.id, .int .i64 o.pc, .int .i64 o.c.tag, .int .i64 o.c.n, .int .i64 o.ch.kind, .slice A1 a1 c1, .int .i64 o.ch.env, .int .i64 o.ch.id, .int .i64 o.ch.pc, .int .i64 o.ch.cut, .int .i64 o.ch.mark, .int .i64 o.ch.top, .int .i64 o.ch.envs, .slice A2 a2 c2, .int .i64 o.ch.data, .int .i64 o.e] ∧ StO wx B p F b st o.ch (.slice A1 a1 c1, .slice A2 a2 c2) ∧ Kept F w wx
theorem dmO_of {q B p b : Nat} {F : List Nat} {st : St} {o : Ov} {w w1 wx : World} {A1 A2 : Option Addr} {a1 c1 a2 c2 : Nat} (hk : Kept F w w1) (hs : StO w1 B p F b st o.ch (.slice A1 a1 c1, .slice A2 a2 c2)) (hu : Upd q w1 wx) (hq : q ∉ F) (hqb : q < b) (hqw : w.heap.size ≤ q) (hb : Blk wx q 42 #[.int .i64 o.id, .int .i64 o.pc, .int .i64 o.c.tag, .int .i64 o.c.n, .int .i64 o.ch.kind, .slice A1 a1 c1, .int .i64 o.ch.env, .int .i64 o.ch.id, .int .i64 o.ch.pc, .int .i64 o.ch.cut, .int .i64 o.ch.mark, .int .i64 o.ch.top, .int .i64 o.ch.envs, .slice A2 a2 c2, .int .i64 o.ch.data, .int .i64 o.e]) : DoMO q B p F b st o w wx :=
  ⟨A1, a1, c1, A2, a2, c2, hb, hs.upd hu hq hqb (Nat.le_refl _), hk.updNew hu hqw⟩
set_option maxHeartbeats 8000000 in
set_option maxRecDepth 100000 in
theorem do_anyO {B p : Nat} {s : St} {x : Ch} {cl : Cl} {Aa Ab : Option Addr} {ca cb : Nat} {ve vc : Value} {ys : List Value} {cs : List (Value × Value)} (what n id pc : Int) (w : World) (h : Stk w B p s ve vc ys cs) (hz : Sized s)
    (hca : CapOk Aa x.args.length ca) (hra : RowIn w Aa (cCs x.args)) (hla : x.args.length ≤ 8796093022208) (hcb : CapOk Ab x.alts.length cb) (hrb : RowIn w Ab (iCs x.alts)) (hlb : x.alts.length ≤ 17592186044416) :
    Calls Try.prog 12 #[.pointer (some ⟨p, 0, none⟩), (Sp.v ⟨what, n, id, pc, cl, x⟩ (.slice Aa x.args.length ca) (.slice Ab x.alts.length cb))] w fun e w' => ∃ oc, e = .returned (Ov.v (doV s ⟨what, n, id, pc, cl, x⟩).2 oc) ∧ StO w' B p (foot p ve vc ys cs) w.heap.size (doV s ⟨what, n, id, pc, cl, x⟩).1 (doV s ⟨what, n, id, pc, cl, x⟩).2.ch oc ∧ Kept (foot p ve vc ys cs) w w' := by
  obtain ⟨W, HW⟩ : ∃ W, Hid (W = (w.alloc (.cells #[.int .i64 what, .int .i64 n, .int .i64 id, .int .i64 pc, .int .i64 cl.tag, .int .i64 cl.n, .int .i64 x.kind, .slice Aa x.args.length ca, .int .i64 x.env, .int .i64 x.id, .int .i64 x.pc, .int .i64 x.cut, .int .i64 x.mark, .int .i64 x.top, .int .i64 x.envs, .slice Ab x.alts.length cb, .int .i64 x.data] 40)).alloc (.cells #[.int .i64 0, .int .i64 0, .int .i64 0, .int .i64 0, .int .i64 0, .slice none 0 0, .int .i64 0, .int .i64 0, .int .i64 0, .int .i64 0, .int .i64 0, .int .i64 0, .int .i64 0, .slice none 0 0, .int .i64 0, .int .i64 0] 42)) := ⟨_, rfl⟩
  have hbW : Below w.heap.size w W := by rw [HW.out]; exact (bAlloc w _).alloc (by simp) _
  obtain ⟨q3, hq3⟩ : ∃ q, Hid (q = w.heap.size) := ⟨_, rfl⟩
  obtain ⟨q4, hq4⟩ : ∃ q, Hid (q = w.heap.size + 1) := ⟨_, rfl⟩
  have k3 : Blk W q3 40 #[.int .i64 what, .int .i64 n, .int .i64 id, .int .i64 pc, .int .i64 cl.tag, .int .i64 cl.n, .int .i64 x.kind, .slice Aa x.args.length ca, .int .i64 x.env, .int .i64 x.id, .int .i64 x.pc, .int .i64 x.cut, .int .i64 x.mark, .int .i64 x.top, .int .i64 x.envs, .slice Ab x.alts.length cb, .int .i64 x.data] := by rw [HW.out, hq3.out]; exact (Blk.new w 40 _).alloc _
  have k4 : Blk W q4 42 #[.int .i64 0, .int .i64 0, .int .i64 0, .int .i64 0, .int .i64 0, .slice none 0 0, .int .i64 0, .int .i64 0, .int .i64 0, .int .i64 0, .int .i64 0, .int .i64 0, .int .i64 0, .slice none 0 0, .int .i64 0, .int .i64 0] := by
    rw [HW.out, hq4.out]
    have h1 := Blk.new (w.alloc (.cells #[.int .i64 what, .int .i64 n, .int .i64 id, .int .i64 pc, .int .i64 cl.tag, .int .i64 cl.n, .int .i64 x.kind, .slice Aa x.args.length ca, .int .i64 x.env, .int .i64 x.id, .int .i64 x.pc, .int .i64 x.cut, .int .i64 x.mark, .int .i64 x.top, .int .i64 x.envs, .slice Ab x.alts.length cb, .int .i64 x.data] 40)) 42 #[.int .i64 0, .int .i64 0, .int .i64 0, .int .i64 0, .int .i64 0, .slice none 0 0, .int .i64 0, .int .i64 0, .int .i64 0, .int .i64 0, .int .i64 0, .int .i64 0, .int .i64 0, .slice none 0 0, .int .i64 0, .int .i64 0]
    rw [World.size_alloc] at h1
    exact h1
  have hq3w : w.heap.size ≤ q3 := by rw [hq3.out]; exact Nat.le_refl _
  have hq4w : w.heap.size < q4 := by rw [hq4.out]; exact Nat.lt_succ_self _
  have HFL := Lib.hid h.foot_lt
  have hq4F : q4 ∉ foot p ve vc ys cs := fun hm => by have := HFL.out q4 hm; omega
  have hq4W := k4.lt
  have HS := Lib.hid (h.next hbW)
  have HB := Lib.hid hbW
  have HZ := Lib.hid hz
  have HCA := Lib.hid hca
  have HCB := Lib.hid hcb
  have hr : ∀ {A : Option Addr} {xs : List Value}, RowIn w A xs → RowIn W A xs := fun h1 ad ha j u hj => by
    have h2 := h1 ad ha j u hj
    rw [← h2]
    exact hbW.cell (World.block_lt_of_cell? w _ h2)
  have HRA := Lib.hid (hr hra)
  have HRB := Lib.hid (hr hrb)
  have HF4 := Lib.hid hq4F
  clear h hbW hz hra hrb hr hca hcb hq4F
  obtain ⟨r, HR⟩ : ∃ r, Hid (r = doV s ⟨what, n, id, pc, cl, x⟩) := ⟨_, rfl⟩
  rw [← HR.out]
  go_enter Try.func12, Try.ntmps12
  go_upto_region 1 with fail
  rw [← HW.out, ← hq4.out, ← hq3.out]
  clear HW
  have z0 := k3.cell 0
  simp at z0
  have l3 := k3.lt
  go_upto_block 0 with fail
  go_cut [6] from 7 to 81 (fun s6 wx => s6 = .int .i64 what ∧ Hid (DoMO q4 B p (foot p ve vc ys cs) W.heap.size r.1 r.2 w wx))
  case first =>
    by_cases hk0 : what = 0
    · subst hk0
      have hr : r = (stOf s (allocV s n id pc), ⟨0, 0, ⟨0, 0⟩, chO, errOf (allocV s n id pc)⟩) := by rw [HR.out]; rfl
      have z1 := k3.cell 1
      simp at z1
      have z2 := k3.cell 2
      simp at z2
      have z3 := k3.cell 3
      simp at z3
      go_wp2_with fail
      refine (alloc_any n id pc W HS.out HZ.out.envs HZ.out.chs HZ.out.e).mono ?_
      rintro e w1 ⟨rfl, hst, hkept⟩
      have kq : Blk w1 q4 42 _ := (hkept.block q4 k4.lt HF4.out).trans k4
      have HST := Lib.hid hst
      have HKP := Lib.hid hkept
      clear hst hkept
      have g15 := kq.cell 15
      have f15 := kq.frozen 15
      simp at g15
      have l4 := kq.lt
      have hM := dmO_of (o := ⟨0, 0, ⟨0, 0⟩, chO, errOf (allocV s n id pc)⟩) ((Kept.below HB.out).trans HKP.out) (StO.nil HST.out) ((Upd.refl q4 w1).set 15 (.int .i64 (errOf (allocV s n id pc)))) HF4.out hq4W (Nat.le_of_lt hq4w) (by simpa [chO] using (kq.set_ 15 (.int .i64 (errOf (allocV s n id pc)))))
      have HM := Lib.hid hM
      clear hM HKP HST kq
      go_wp2_with fail
      go_meet
      rw [hr]
      exact ⟨rfl, HM⟩
    by_cases hk1 : what = 1
    · subst hk1
      have hr : r = (freeS s (freeV s), ⟨frI (freeV s), frP (freeV s), ⟨0, 0⟩, chO, errOf (freeV s)⟩) := by rw [HR.out]; rfl
      go_wp2_with fail
      refine (free_any W HS.out HZ.out.envs HZ.out.chs).mono ?_
      rw [freeT_eq]
      rintro e w1 ⟨rfl, hst, hkept⟩
      have kq : Blk w1 q4 42 _ := (hkept.block q4 k4.lt HF4.out).trans k4
      have HST := Lib.hid hst
      have HKP := Lib.hid hkept
      clear hst hkept
      have g0 := kq.cell 0
      have f0 := kq.frozen 0
      simp at g0
      have g1 := kq.cell 1
      have f1 := kq.frozen 1
      simp at g1
      have g15 := kq.cell 15
      have f15 := kq.frozen 15
      simp at g15
      have l4 := kq.lt
      have hM := dmO_of (o := ⟨frI (freeV s), frP (freeV s), ⟨0, 0⟩, chO, errOf (freeV s)⟩) ((Kept.below HB.out).trans HKP.out) (StO.nil HST.out) ((((Upd.refl q4 w1).set 0 (.int .i64 (frI (freeV s)))).set 1 (.int .i64 (frP (freeV s)))).set 15 (.int .i64 (errOf (freeV s)))) HF4.out hq4W (Nat.le_of_lt hq4w) (by simpa [chO] using (((kq.set_ 0 (.int .i64 (frI (freeV s)))).set_ 1 (.int .i64 (frP (freeV s)))).set_ 15 (.int .i64 (errOf (freeV s)))))
      have HM := Lib.hid hM
      clear hM HKP HST kq
      go_wp2_with fail
      go_meet
      rw [hr]
      exact ⟨rfl, HM⟩
    by_cases hk2 : what = 2
    · subst hk2
      have hr : r = (stOf s (trimV s n), ⟨0, 0, ⟨0, 0⟩, chO, errOf (trimV s n)⟩) := by rw [HR.out]; rfl
      have z1 := k3.cell 1
      simp at z1
      go_wp2_with fail
      refine (trim_any n W HS.out HZ.out.envs HZ.out.chs HZ.out.y).mono ?_
      rintro e w1 ⟨rfl, hst, hkept⟩
      have kq : Blk w1 q4 42 _ := (hkept.block q4 k4.lt HF4.out).trans k4
      have HST := Lib.hid hst
      have HKP := Lib.hid hkept
      clear hst hkept
      have g15 := kq.cell 15
      have f15 := kq.frozen 15
      simp at g15
      have l4 := kq.lt
      have hM := dmO_of (o := ⟨0, 0, ⟨0, 0⟩, chO, errOf (trimV s n)⟩) ((Kept.below HB.out).trans HKP.out) (StO.nil HST.out) ((Upd.refl q4 w1).set 15 (.int .i64 (errOf (trimV s n)))) HF4.out hq4W (Nat.le_of_lt hq4w) (by simpa [chO] using (kq.set_ 15 (.int .i64 (errOf (trimV s n)))))
      have HM := Lib.hid hM
      clear hM HKP HST kq
      go_wp2_with fail
      go_meet
      rw [hr]
      exact ⟨rfl, HM⟩
    by_cases hk3 : what = 3
    · subst hk3
      have hr : r = (s, ⟨0, 0, geC (getV s n), chO, errOf (getV s n)⟩) := by rw [HR.out]; rfl
      go_upto_region 9 with fail
      obtain ⟨X0, HX⟩ : ∃ X, Hid (X = W.drew) := ⟨_, rfl⟩
      have hd0 : Below W.heap.size W X0 := by rw [HX.out]; exact bDrew W
      have H0 := Lib.hid (HS.out.next hd0)
      have K3 := Lib.hid (k3.next hd0)
      have K4 := Lib.hid (k4.next hd0)
      have HB0 := Lib.hid (bNext HB.out hd0)
      have hz0 := hd0.size
      refine wp_region_N (fun w' => Blk w' p 25 #[ve, .int .i64 s.e, vc] ∧ Blk w' q3 40 #[.int .i64 3, .int .i64 n, .int .i64 id, .int .i64 pc, .int .i64 cl.tag, .int .i64 cl.n, .int .i64 x.kind, .slice Aa x.args.length ca, .int .i64 x.env, .int .i64 x.id, .int .i64 x.pc, .int .i64 x.cut, .int .i64 x.mark, .int .i64 x.top, .int .i64 x.envs, .slice Ab x.alts.length cb, .int .i64 x.data]) (fun j => decide (j < 12)) (by kernel_rfl) ?_
      rw [← HX.out]
      clear HX hd0
      have hS0 : (fun w' => Blk w' p 25 #[ve, .int .i64 s.e, vc] ∧ Blk w' q3 40 #[.int .i64 3, .int .i64 n, .int .i64 id, .int .i64 pc, .int .i64 cl.tag, .int .i64 cl.n, .int .i64 x.kind, .slice Aa x.args.length ca, .int .i64 x.env, .int .i64 x.id, .int .i64 x.pc, .int .i64 x.cut, .int .i64 x.mark, .int .i64 x.top, .int .i64 x.envs, .slice Ab x.alts.length cb, .int .i64 x.data]) X0 := ⟨H0.out.box, K3.out⟩
      refine wpAnyN_take (i := 0) (v := ?v1) rfl (by kernel_rfl) (by kernel_rfl) (by kernel_rfl) (by kernel_rfl) (fun _ _ _ h => h) (Or.inl ⟨by rfl, ?hy1⟩) (by assumption) ?_
      case hy1 => intro w hSw; obtain ⟨hsp, hsq⟩ := hSw; have e0 := hsp.cell 0; have e1 := hsp.cell 1; have e2 := hsp.cell 2; have i1 := hsq.cell 1; have ll := hsp.lt; simp at e0 e1 e2 i1; go_simp; try with_reducible rfl
      simp only [Act.put, List.getElem_toArray, List.getElem_cons_zero, List.setIfInBounds_toArray, List.set_cons_zero, List.set_cons_succ]
      refine wpAnyN_take (i := 1) (v := ?v2) rfl (by kernel_rfl) (by kernel_rfl) (by kernel_rfl) (by kernel_rfl) (fun _ _ _ h => h) (Or.inl ⟨by rfl, ?hy2⟩) (by assumption) ?_
      case hy2 => intro w hSw; obtain ⟨hsp, hsq⟩ := hSw; have e0 := hsp.cell 0; have e1 := hsp.cell 1; have e2 := hsp.cell 2; have i1 := hsq.cell 1; have ll := hsp.lt; simp at e0 e1 e2 i1; go_simp; try with_reducible rfl
      simp only [Act.put, List.getElem_toArray, List.getElem_cons_zero, List.getElem_cons_succ, List.setIfInBounds_toArray, List.set_cons_zero, List.set_cons_succ]
      refine wpAnyN_take (i := 2) (v := ?v3) rfl (by kernel_rfl) (by kernel_rfl) (by kernel_rfl) (by kernel_rfl) (fun _ _ _ h => h) (Or.inl ⟨by rfl, ?hy3⟩) (by assumption) ?_
      case hy3 => intro w hSw; obtain ⟨hsp, hsq⟩ := hSw; have e0 := hsp.cell 0; have e1 := hsp.cell 1; have e2 := hsp.cell 2; have i1 := hsq.cell 1; have ll := hsp.lt; simp at e0 e1 e2 i1; go_simp; try with_reducible rfl
      simp only [Act.put, List.getElem_toArray, List.getElem_cons_zero, List.getElem_cons_succ, List.setIfInBounds_toArray, List.set_cons_zero, List.set_cons_succ]
      refine wpAnyN_take (i := 3) (v := ?v4) rfl (by kernel_rfl) (by kernel_rfl) (by kernel_rfl) (by kernel_rfl) (fun _ _ _ h => h) (Or.inl ⟨by rfl, ?hy4⟩) (by assumption) ?_
      case hy4 => intro w hSw; obtain ⟨hsp, hsq⟩ := hSw; have e0 := hsp.cell 0; have e1 := hsp.cell 1; have e2 := hsp.cell 2; have i1 := hsq.cell 1; have ll := hsp.lt; simp at e0 e1 e2 i1; go_simp; try with_reducible rfl
      simp only [Act.put, List.getElem_toArray, List.getElem_cons_zero, List.getElem_cons_succ, List.setIfInBounds_toArray, List.set_cons_zero, List.set_cons_succ]
      refine wpAnyN_take (i := 4) (v := ?v5) rfl (by kernel_rfl) (by kernel_rfl) (by kernel_rfl) (by kernel_rfl) (fun _ _ _ h => h) (Or.inl ⟨by rfl, ?hy5⟩) (by assumption) ?_
      case hy5 => intro w hSw; obtain ⟨hsp, hsq⟩ := hSw; have e0 := hsp.cell 0; have e1 := hsp.cell 1; have e2 := hsp.cell 2; have i1 := hsq.cell 1; have ll := hsp.lt; simp at e0 e1 e2 i1; go_simp; try with_reducible rfl
      simp only [Act.put, List.getElem_toArray, List.getElem_cons_zero, List.getElem_cons_succ, List.setIfInBounds_toArray, List.set_cons_zero, List.set_cons_succ]
      refine wpAnyN_one (i := 5) (by kernel_rfl) rfl (fun K hK => ?_)
      simp only [List.getElem_toArray, List.getElem_cons_zero, List.getElem_cons_succ]
      go_simp
      refine (get_any n X0 H0.out HZ.out.envs HZ.out.y).mono ?_
      rw [getT_eq]
      rintro e w1 ⟨rfl, hb1⟩
      have hS1 : (fun w' => Blk w' p 25 #[ve, .int .i64 s.e, vc] ∧ Blk w' q3 40 #[.int .i64 3, .int .i64 n, .int .i64 id, .int .i64 pc, .int .i64 cl.tag, .int .i64 cl.n, .int .i64 x.kind, .slice Aa x.args.length ca, .int .i64 x.env, .int .i64 x.id, .int .i64 x.pc, .int .i64 x.cut, .int .i64 x.mark, .int .i64 x.top, .int .i64 x.envs, .slice Ab x.alts.length cb, .int .i64 x.data]) w1 := ⟨hS0.1.next hb1, hS0.2.next hb1⟩
      have kq := K4.out.next hb1
      have HST := Lib.hid (H0.out.next hb1)
      have HKP := Lib.hid (Kept.below (F := foot p ve vc ys cs) (bNext HB0.out hb1))
      have hz1 := hb1.size
      have hpq : p ≠ q4 := fun e => HF4.out (e ▸ List.mem_cons_self)
      have hqq : q3 ≠ q4 := fun e => by have h3 := hq3.out; have h4 := hq4.out; omega
      have g2 := kq.cell 2
      have g3 := kq.cell 3
      have g15 := kq.cell 15
      have f2 := kq.frozen 2
      have f3 := kq.frozen 3
      have f15 := kq.frozen 15
      have l4 := kq.lt
      simp at g2 g3 g15
      clear hb1
      refine hK _ _ (fun _ => hS1) ?_
      (try simp only [Act.put, List.setIfInBounds_toArray, List.set_cons_zero, List.set_cons_succ])
      refine wpAnyN_take (i := 6) (v := ?v6) rfl (by kernel_rfl) (by kernel_rfl) (by kernel_rfl) (by kernel_rfl) (fun _ _ _ h => h) (Or.inl ⟨by rfl, ?hy6⟩) (by assumption) ?_
      case hy6 => intro w hSw; obtain ⟨hsp, hsq⟩ := hSw; have e0 := hsp.cell 0; have e1 := hsp.cell 1; have e2 := hsp.cell 2; have i1 := hsq.cell 1; have ll := hsp.lt; simp at e0 e1 e2 i1; go_simp; try with_reducible rfl
      simp only [Act.put, List.getElem_toArray, List.getElem_cons_zero, List.getElem_cons_succ, List.setIfInBounds_toArray, List.set_cons_zero, List.set_cons_succ]
      refine wpAnyN_take (i := 7) (v := ?v7) rfl (by kernel_rfl) (by kernel_rfl) (by kernel_rfl) (by kernel_rfl) (fun _ _ _ h => h) (Or.inl ⟨by rfl, ?hy7⟩) (by assumption) ?_
      case hy7 => intro w hSw; obtain ⟨hsp, hsq⟩ := hSw; have e0 := hsp.cell 0; have e1 := hsp.cell 1; have e2 := hsp.cell 2; have i1 := hsq.cell 1; have ll := hsp.lt; simp at e0 e1 e2 i1; go_simp; try with_reducible rfl
      simp only [Act.put, List.getElem_toArray, List.getElem_cons_zero, List.getElem_cons_succ, List.setIfInBounds_toArray, List.set_cons_zero, List.set_cons_succ]
      refine wpAnyN_take (i := 8) (v := ?v8) rfl (by kernel_rfl) (by kernel_rfl) (by kernel_rfl) (by kernel_rfl) (fun _ _ _ h => h) (Or.inl ⟨by rfl, ?hy8⟩) (by assumption) ?_
      case hy8 => intro w hSw; obtain ⟨hsp, hsq⟩ := hSw; have e0 := hsp.cell 0; have e1 := hsp.cell 1; have e2 := hsp.cell 2; have i1 := hsq.cell 1; have ll := hsp.lt; simp at e0 e1 e2 i1; go_simp; try with_reducible rfl
      simp only [Act.put, List.getElem_toArray, List.getElem_cons_zero, List.getElem_cons_succ, List.setIfInBounds_toArray, List.set_cons_zero, List.set_cons_succ]
      refine wpAnyN_take (i := 9) (v := ?v9) rfl (by kernel_rfl) (by kernel_rfl) (by kernel_rfl) (by kernel_rfl) (fun _ _ _ h => h) (Or.inl ⟨by rfl, ?hy9⟩) (by assumption) ?_
      case hy9 => intro w hSw; obtain ⟨hsp, hsq⟩ := hSw; have e0 := hsp.cell 0; have e1 := hsp.cell 1; have e2 := hsp.cell 2; have i1 := hsq.cell 1; have ll := hsp.lt; simp at e0 e1 e2 i1; go_simp; try with_reducible rfl
      simp only [Act.put, List.getElem_toArray, List.getElem_cons_zero, List.getElem_cons_succ, List.setIfInBounds_toArray, List.set_cons_zero, List.set_cons_succ]
      refine wpAnyN_one (i := 10) (by kernel_rfl) rfl (fun K hK => ?_)
      simp only [List.getElem_toArray, List.getElem_cons_zero, List.getElem_cons_succ]
      go_simp
      refine hK _ _ (fun _ => ⟨(hS1.1.far (by simpa using hpq) _).far (by simpa using hpq) _, (hS1.2.far (by simpa using hqq) _).far (by simpa using hqq) _⟩) ?_
      (try simp only [Act.put, List.setIfInBounds_toArray, List.set_cons_zero, List.set_cons_succ])
      refine wpAnyN_one (i := 11) (by kernel_rfl) rfl (fun K hK => ?_)
      simp only [List.getElem_toArray, List.getElem_cons_zero, List.getElem_cons_succ]
      go_simp
      refine hK _ _ (fun _ => ⟨(hS1.1.far (by simpa using hpq) _).far (by simpa using hpq) _, (hS1.2.far (by simpa using hqq) _).far (by simpa using hqq) _⟩) ?_
      (try simp only [Act.put, List.setIfInBounds_toArray, List.set_cons_zero, List.set_cons_succ])
      refine wpAnyN_one (i := 12) (by kernel_rfl) rfl (fun K hK => ?_)
      simp only [List.getElem_toArray, List.getElem_cons_zero, List.getElem_cons_succ]
      go_simp
      refine hK _ _ (fun h => absurd h (by decide)) ?_
      (try simp only [Act.put, List.setIfInBounds_toArray, List.set_cons_zero, List.set_cons_succ])
      refine wpAnyN_done (by kernel_rfl) ?_ _
      have hM := dmO_of (b := W.heap.size) (o := ⟨0, 0, geC (getV s n), chO, errOf (getV s n)⟩) HKP.out (StO.nil ⟨_, _, _, _, HST.out, fun g hg => .inl hg⟩) ((((Upd.refl q4 w1).set 2 (.int .i64 (geC (getV s n)).tag)).set 3 (.int .i64 (geC (getV s n)).n)).set 15 (.int .i64 (errOf (getV s n)))) HF4.out hq4W (Nat.le_of_lt hq4w) (by simpa [chO] using (((kq.set_ 2 (.int .i64 (geC (getV s n)).tag)).set_ 3 (.int .i64 (geC (getV s n)).n)).set_ 15 (.int .i64 (errOf (getV s n)))))
      have HM := Lib.hid hM
      clear hM HKP HST kq
      go_wp2_with fail
      go_meet
      rw [hr]
      exact ⟨rfl, HM⟩
    by_cases hk4 : what = 4
    · subst hk4
      have hr : r = (stOf s (setV s n cl), ⟨0, 0, ⟨0, 0⟩, chO, errOf (setV s n cl)⟩) := by rw [HR.out]; rfl
      have z1 := k3.cell 1
      simp at z1
      have z4 := k3.cell 4
      simp at z4
      have z5 := k3.cell 5
      simp at z5
      go_wp2_with fail
      refine (set_any n cl W HS.out HZ.out.envs HZ.out.chs HZ.out.y).mono ?_
      rintro e w1 ⟨rfl, hst, hkept⟩
      have kq : Blk w1 q4 42 _ := (hkept.block q4 k4.lt HF4.out).trans k4
      have HST := Lib.hid hst
      have HKP := Lib.hid hkept
      clear hst hkept
      have g15 := kq.cell 15
      have f15 := kq.frozen 15
      simp at g15
      have l4 := kq.lt
      have hM := dmO_of (o := ⟨0, 0, ⟨0, 0⟩, chO, errOf (setV s n cl)⟩) ((Kept.below HB.out).trans HKP.out) (StO.nil HST.out) ((Upd.refl q4 w1).set 15 (.int .i64 (errOf (setV s n cl)))) HF4.out hq4W (Nat.le_of_lt hq4w) (by simpa [chO] using (kq.set_ 15 (.int .i64 (errOf (setV s n cl)))))
      have HM := Lib.hid hM
      clear hM HKP HST kq
      go_wp2_with fail
      go_meet
      rw [hr]
      exact ⟨rfl, HM⟩
    by_cases hk5 : what = 5
    · subst hk5
      have hr : r = (stOf s (pushV s x), ⟨0, 0, ⟨0, 0⟩, chO, errOf (pushV s x)⟩) := by rw [HR.out]; rfl
      have z6 := k3.cell 6
      simp at z6
      have z7 := k3.cell 7
      simp at z7
      have z8 := k3.cell 8
      simp at z8
      have z9 := k3.cell 9
      simp at z9
      have z10 := k3.cell 10
      simp at z10
      have z11 := k3.cell 11
      simp at z11
      have z12 := k3.cell 12
      simp at z12
      have z13 := k3.cell 13
      simp at z13
      have z14 := k3.cell 14
      simp at z14
      have z15 := k3.cell 15
      simp at z15
      have z16 := k3.cell 16
      simp at z16
      go_wp2_with fail
      refine (push_any W HS.out HZ.out.chs HCA.out HRA.out hla HCB.out HRB.out hlb).mono ?_
      rintro e w1 ⟨rfl, hst, hkept⟩
      have kq : Blk w1 q4 42 _ := (hkept.block q4 k4.lt HF4.out).trans k4
      have HST := Lib.hid hst
      have HKP := Lib.hid hkept
      clear hst hkept
      have g15 := kq.cell 15
      have f15 := kq.frozen 15
      simp at g15
      have l4 := kq.lt
      have hM := dmO_of (o := ⟨0, 0, ⟨0, 0⟩, chO, errOf (pushV s x)⟩) ((Kept.below HB.out).trans HKP.out) (StO.nil HST.out) ((Upd.refl q4 w1).set 15 (.int .i64 (errOf (pushV s x)))) HF4.out hq4W (Nat.le_of_lt hq4w) (by simpa [chO] using (kq.set_ 15 (.int .i64 (errOf (pushV s x)))))
      have HM := Lib.hid hM
      clear hM HKP HST kq
      go_wp2_with fail
      go_meet
      rw [hr]
      exact ⟨rfl, HM⟩
    by_cases hk6 : what = 6
    · subst hk6
      rcases hch : s.chs.getLast? with _ | c
      · have hnil : s.chs = [] := List.getLast?_eq_none_iff.1 hch
        have hp : popR s = .error 5 := by unfold popR; rw [hch]
        have hr0 : r = (popS s (popR s), ⟨0, 0, ⟨0, 0⟩, popC (popR s), errOf (popR s)⟩) := by rw [HR.out]; rfl
        have hr : r = (s, ⟨0, 0, ⟨0, 0⟩, chO, 5⟩) := by rw [hr0, hp]; rfl
        have HCH := Lib.hid (pop_no W HS.out hnil)
        clear hch hp hr0 hnil
        go_wp2_with fail
        refine HCH.out.mono ?_
        rintro e w1 ⟨rfl, hst, hkept⟩
        have kq : Blk w1 q4 42 _ := (hkept.block q4 k4.lt HF4.out).trans k4
        have HST := Lib.hid hst
        have HKP := Lib.hid hkept
        clear hst hkept
        have g4 := kq.cell 4
        have f4 := kq.frozen 4
        have g5 := kq.cell 5
        have f5 := kq.frozen 5
        have g6 := kq.cell 6
        have f6 := kq.frozen 6
        have g7 := kq.cell 7
        have f7 := kq.frozen 7
        have g8 := kq.cell 8
        have f8 := kq.frozen 8
        have g9 := kq.cell 9
        have f9 := kq.frozen 9
        have g10 := kq.cell 10
        have f10 := kq.frozen 10
        have g11 := kq.cell 11
        have f11 := kq.frozen 11
        have g12 := kq.cell 12
        have f12 := kq.frozen 12
        have g13 := kq.cell 13
        have f13 := kq.frozen 13
        have g14 := kq.cell 14
        have f14 := kq.frozen 14
        have g15 := kq.cell 15
        have f15 := kq.frozen 15
        simp at g4 g5 g6 g7 g8 g9 g10 g11 g12 g13 g14 g15
        have l4 := kq.lt
        have hM := dmO_of (o := ⟨0, 0, ⟨0, 0⟩, chO, 5⟩) ((Kept.below HB.out).trans HKP.out) (StO.nil HST.out) (((((((((((((Upd.refl q4 w1).set 4 (.int .i64 0)).set 5 (.slice none 0 0)).set 6 (.int .i64 0)).set 7 (.int .i64 0)).set 8 (.int .i64 0)).set 9 (.int .i64 0)).set 10 (.int .i64 0)).set 11 (.int .i64 0)).set 12 (.int .i64 0)).set 13 (.slice none 0 0)).set 14 (.int .i64 0)).set 15 (.int .i64 5)) HF4.out hq4W (Nat.le_of_lt hq4w) (by simpa [chO] using ((((((((((((kq.set_ 4 (.int .i64 0)).set_ 5 (.slice none 0 0)).set_ 6 (.int .i64 0)).set_ 7 (.int .i64 0)).set_ 8 (.int .i64 0)).set_ 9 (.int .i64 0)).set_ 10 (.int .i64 0)).set_ 11 (.int .i64 0)).set_ 12 (.int .i64 0)).set_ 13 (.slice none 0 0)).set_ 14 (.int .i64 0)).set_ 15 (.int .i64 5)))
        have HM := Lib.hid hM
        clear hM HKP HST kq
        go_wp2_with fail
        go_meet
        rw [hr]
        exact ⟨rfl, HM⟩
      · have hne : s.chs ≠ [] := fun e => by rw [e] at hch; cases hch
        have hpos := List.length_pos_iff.2 hne
        obtain ⟨m, hm⟩ : ∃ m, s.chs.length = m + 1 := ⟨s.chs.length - 1, by omega⟩
        have hx : s.chs[m]? = some c := by rw [List.getLast?_eq_getElem?, hm, Nat.add_sub_cancel] at hch; exact hch
        have hp : popR s = .ok (popV s m c, c) := by unfold popR; rw [hch]; simp only [hm, Nat.add_sub_cancel]
        have hr0 : r = (popS s (popR s), ⟨0, 0, ⟨0, 0⟩, popC (popR s), errOf (popR s)⟩) := by rw [HR.out]; rfl
        have hr : r = (popV s m c, ⟨0, 0, ⟨0, 0⟩, c, 0⟩) := by rw [hr0, hp]; rfl
        obtain ⟨v, hv⟩ : ∃ v, cs[m]? = some v := ⟨_, List.getElem?_eq_getElem (by rw [HS.out.clen, hm]; omega)⟩
        have HCH := Lib.hid (popO_any W HS.out HZ.out.envs HZ.out.chs hm hx hv)
        clear hch hp hr0 hm hx hv hne hpos
        go_wp2_with fail
        refine HCH.out.mono ?_
        rintro e w1 ⟨rfl, hst, hkept⟩
        have hst' := hst
        obtain ⟨_, _, _, _, -, -, hv1, hv2, -⟩ := hst'
        obtain ⟨va, vb⟩ := v
        obtain ⟨A1, c1, e1, -⟩ := own_form hv1
        obtain ⟨A2, c2, e2, -⟩ := own_form hv2
        have e1 : va = _ := e1
        have e2 : vb = _ := e2
        subst e1 e2
        dsimp only
        have kq : Blk w1 q4 42 _ := (hkept.block q4 k4.lt HF4.out).trans k4
        have HST := Lib.hid hst
        have HKP := Lib.hid hkept
        clear hst hkept hv1 hv2
        have g4 := kq.cell 4
        have f4 := kq.frozen 4
        have g5 := kq.cell 5
        have f5 := kq.frozen 5
        have g6 := kq.cell 6
        have f6 := kq.frozen 6
        have g7 := kq.cell 7
        have f7 := kq.frozen 7
        have g8 := kq.cell 8
        have f8 := kq.frozen 8
        have g9 := kq.cell 9
        have f9 := kq.frozen 9
        have g10 := kq.cell 10
        have f10 := kq.frozen 10
        have g11 := kq.cell 11
        have f11 := kq.frozen 11
        have g12 := kq.cell 12
        have f12 := kq.frozen 12
        have g13 := kq.cell 13
        have f13 := kq.frozen 13
        have g14 := kq.cell 14
        have f14 := kq.frozen 14
        have g15 := kq.cell 15
        have f15 := kq.frozen 15
        simp at g4 g5 g6 g7 g8 g9 g10 g11 g12 g13 g14 g15
        have l4 := kq.lt
        have hM := dmO_of (o := ⟨0, 0, ⟨0, 0⟩, c, 0⟩) ((Kept.below HB.out).trans HKP.out) HST.out (((((((((((((Upd.refl q4 w1).set 4 (.int .i64 c.kind)).set 5 (.slice A1 c.args.length c1)).set 6 (.int .i64 c.env)).set 7 (.int .i64 c.id)).set 8 (.int .i64 c.pc)).set 9 (.int .i64 c.cut)).set 10 (.int .i64 c.mark)).set 11 (.int .i64 c.top)).set 12 (.int .i64 c.envs)).set 13 (.slice A2 c.alts.length c2)).set 14 (.int .i64 c.data)).set 15 (.int .i64 0)) HF4.out hq4W (Nat.le_of_lt hq4w) (by simpa [chO] using ((((((((((((kq.set_ 4 (.int .i64 c.kind)).set_ 5 (.slice A1 c.args.length c1)).set_ 6 (.int .i64 c.env)).set_ 7 (.int .i64 c.id)).set_ 8 (.int .i64 c.pc)).set_ 9 (.int .i64 c.cut)).set_ 10 (.int .i64 c.mark)).set_ 11 (.int .i64 c.top)).set_ 12 (.int .i64 c.envs)).set_ 13 (.slice A2 c.alts.length c2)).set_ 14 (.int .i64 c.data)).set_ 15 (.int .i64 0)))
        have HM := Lib.hid hM
        clear hM HKP HST kq
        go_wp2_with fail
        go_meet
        rw [hr]
        exact ⟨rfl, HM⟩
    by_cases hk7 : what = 7
    · subst hk7
      have hr : r = (stOf s (cutV s n), ⟨0, 0, ⟨0, 0⟩, chO, errOf (cutV s n)⟩) := by rw [HR.out]; rfl
      have z1 := k3.cell 1
      simp at z1
      go_wp2_with fail
      refine (cut_any n W HS.out HZ.out.envs HZ.out.chs).mono ?_
      rintro e w1 ⟨rfl, hst, hkept⟩
      have kq : Blk w1 q4 42 _ := (hkept.block q4 k4.lt HF4.out).trans k4
      have HST := Lib.hid hst
      have HKP := Lib.hid hkept
      clear hst hkept
      have g15 := kq.cell 15
      have f15 := kq.frozen 15
      simp at g15
      have l4 := kq.lt
      have hM := dmO_of (o := ⟨0, 0, ⟨0, 0⟩, chO, errOf (cutV s n)⟩) ((Kept.below HB.out).trans HKP.out) (StO.nil HST.out) ((Upd.refl q4 w1).set 15 (.int .i64 (errOf (cutV s n)))) HF4.out hq4W (Nat.le_of_lt hq4w) (by simpa [chO] using (kq.set_ 15 (.int .i64 (errOf (cutV s n)))))
      have HM := Lib.hid hM
      clear hM HKP HST kq
      go_wp2_with fail
      go_meet
      rw [hr]
      exact ⟨rfl, HM⟩
    have hr : r = (s, ⟨0, 0, ⟨0, 0⟩, chO, 0⟩) := by rw [HR.out]; unfold doV; simp only [hk0, hk1, hk2, hk3, hk4, hk5, hk6, hk7, if_false]
    have HM := Lib.hid (dmO_of (b := W.heap.size) (o := ⟨0, 0, ⟨0, 0⟩, chO, 0⟩) (Kept.below (F := foot p ve vc ys cs) HB.out) (StO.nil ⟨_, _, _, _, HS.out, fun g hg => .inl hg⟩) (Upd.refl q4 W) HF4.out hq4W (Nat.le_of_lt hq4w) k4)
    go_wp2_with fail
    go_meet
    rw [hr]
    exact ⟨rfl, HM⟩
  case rest =>
    obtain ⟨rfl, HM⟩ := hcut
    obtain ⟨A1, a1, c1, A2, a2, c2, hk, hst, hkp⟩ := HM.out
    obtain ⟨st, o⟩ := r
    dsimp only at hk hst ⊢
    have HST := Lib.hid hst
    have HKP := Lib.hid hkp
    have HKC := Lib.hid hk
    have v0 := hk.cell 0
    have v1 := hk.cell 1
    have v2 := hk.cell 2
    have v3 := hk.cell 3
    have v4 := hk.cell 4
    have v5 := hk.cell 5
    have v6 := hk.cell 6
    have v7 := hk.cell 7
    have v8 := hk.cell 8
    have v9 := hk.cell 9
    have v10 := hk.cell 10
    have v11 := hk.cell 11
    have v12 := hk.cell 12
    have v13 := hk.cell 13
    have v14 := hk.cell 14
    have v15 := hk.cell 15
    simp at v0 v1 v2 v3 v4 v5 v6 v7 v8 v9 v10 v11 v12 v13 v14 v15
    have fr0 := hk.frozen 0
    have fr1 := hk.frozen 1
    have fr2 := hk.frozen 2
    have fr3 := hk.frozen 3
    have fr4 := hk.frozen 4
    have fr5 := hk.frozen 5
    have fr6 := hk.frozen 6
    have fr7 := hk.frozen 7
    have fr8 := hk.frozen 8
    have fr9 := hk.frozen 9
    have fr10 := hk.frozen 10
    have fr11 := hk.frozen 11
    have fr12 := hk.frozen 12
    have fr13 := hk.frozen 13
    have fr14 := hk.frozen 14
    have fr15 := hk.frozen 15
    have l5 := hk.lt
    clear hst hkp hk HM HR
    go_wp2_with fail
    have hu3 := (((((((((((((((((Upd.refl q4 wc).set 0 (.int .i64 o.id)).set 1 (.int .i64 o.pc)).set 2 (.int .i64 o.c.tag)).set 3 (.int .i64 o.c.n)).set 4 (.int .i64 o.ch.kind)).set 5 (.slice A1 a1 c1)).set 6 (.int .i64 o.ch.env)).set 7 (.int .i64 o.ch.id)).set 8 (.int .i64 o.ch.pc)).set 9 (.int .i64 o.ch.cut)).set 10 (.int .i64 o.ch.mark)).set 11 (.int .i64 o.ch.top)).set 12 (.int .i64 o.ch.envs)).set 13 (.slice A2 a2 c2)).set 14 (.int .i64 o.ch.data)).set 15 (.int .i64 o.e))
    have hk3 := ((((((((((((((((HKC.out.set_ 0 (.int .i64 o.id)).set_ 1 (.int .i64 o.pc)).set_ 2 (.int .i64 o.c.tag)).set_ 3 (.int .i64 o.c.n)).set_ 4 (.int .i64 o.ch.kind)).set_ 5 (.slice A1 a1 c1)).set_ 6 (.int .i64 o.ch.env)).set_ 7 (.int .i64 o.ch.id)).set_ 8 (.int .i64 o.ch.pc)).set_ 9 (.int .i64 o.ch.cut)).set_ 10 (.int .i64 o.ch.mark)).set_ 11 (.int .i64 o.ch.top)).set_ 12 (.int .i64 o.ch.envs)).set_ 13 (.slice A2 a2 c2)).set_ 14 (.int .i64 o.ch.data)).set_ 15 (.int .i64 o.e))
    obtain ⟨W3, HW3⟩ : ∃ X, Hid (X = ((((((((((((((((wc.setCell ⟨q4, 0, none⟩ (.int .i64 o.id)).setCell ⟨q4, 1, none⟩ (.int .i64 o.pc)).setCell ⟨q4, 2, none⟩ (.int .i64 o.c.tag)).setCell ⟨q4, 3, none⟩ (.int .i64 o.c.n)).setCell ⟨q4, 4, none⟩ (.int .i64 o.ch.kind)).setCell ⟨q4, 5, none⟩ (.slice A1 a1 c1)).setCell ⟨q4, 6, none⟩ (.int .i64 o.ch.env)).setCell ⟨q4, 7, none⟩ (.int .i64 o.ch.id)).setCell ⟨q4, 8, none⟩ (.int .i64 o.ch.pc)).setCell ⟨q4, 9, none⟩ (.int .i64 o.ch.cut)).setCell ⟨q4, 10, none⟩ (.int .i64 o.ch.mark)).setCell ⟨q4, 11, none⟩ (.int .i64 o.ch.top)).setCell ⟨q4, 12, none⟩ (.int .i64 o.ch.envs)).setCell ⟨q4, 13, none⟩ (.slice A2 a2 c2)).setCell ⟨q4, 14, none⟩ (.int .i64 o.ch.data)).setCell ⟨q4, 15, none⟩ (.int .i64 o.e))) := ⟨_, rfl⟩
    rw [← HW3.out] at hu3 hk3 ⊢
    have hk3 : Blk W3 q4 42 #[.int .i64 o.id, .int .i64 o.pc, .int .i64 o.c.tag, .int .i64 o.c.n, .int .i64 o.ch.kind, .slice A1 a1 c1, .int .i64 o.ch.env, .int .i64 o.ch.id, .int .i64 o.ch.pc, .int .i64 o.ch.cut, .int .i64 o.ch.mark, .int .i64 o.ch.top, .int .i64 o.ch.envs, .slice A2 a2 c2, .int .i64 o.ch.data, .int .i64 o.e] := by simpa using hk3
    clear v0 v1 v2 v3 v4 v5 v6 v7 v8 v9 v10 v11 v12 v13 v14 v15 fr0 fr1 fr2 fr3 fr4 fr5 fr6 fr7 fr8 fr9 fr10 fr11 fr12 fr13 fr14 fr15 HW3
    have v0 := hk3.cell 0
    have v1 := hk3.cell 1
    have v2 := hk3.cell 2
    have v3 := hk3.cell 3
    have v4 := hk3.cell 4
    have v5 := hk3.cell 5
    have v6 := hk3.cell 6
    have v7 := hk3.cell 7
    have v8 := hk3.cell 8
    have v9 := hk3.cell 9
    have v10 := hk3.cell 10
    have v11 := hk3.cell 11
    have v12 := hk3.cell 12
    have v13 := hk3.cell 13
    have v14 := hk3.cell 14
    have v15 := hk3.cell 15
    simp at v0 v1 v2 v3 v4 v5 v6 v7 v8 v9 v10 v11 v12 v13 v14 v15
    refine bodyPost_ret (v := .agg #[.int .i64 o.id, .int .i64 o.pc, .int .i64 o.c.tag, .int .i64 o.c.n, .int .i64 o.ch.kind, .slice A1 a1 c1, .int .i64 o.ch.env, .int .i64 o.ch.id, .int .i64 o.ch.pc, .int .i64 o.ch.cut, .int .i64 o.ch.mark, .int .i64 o.ch.top, .int .i64 o.ch.envs, .slice A2 a2 c2, .int .i64 o.ch.data, .int .i64 o.e]) (by simp only [results, Try.results12]; go_simp) rfl ?_
    exact ⟨.slice A1 a1 c1, .slice A2 a2 c2, rfl, HST.out.upd hu3 HF4.out hq4W HB.out.size, HKP.out.updNew hu3 (Nat.le_of_lt hq4w)⟩
end Go.Proofs.Ytpkpffnabcgcbaa
