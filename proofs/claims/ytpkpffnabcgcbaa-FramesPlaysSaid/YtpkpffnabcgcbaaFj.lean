/-
  The walk of Pop.
-/
import Derived.Test.YtpkpffnabcgcbaaFi
namespace Go.Proofs.Ytpkpffnabcgcbaa
open Go.RowKit

section
variable {w w' : World} {B p : Nat} {s : St} {ve vc : Value} {ys : List Value} {cs : List (Value × Value)}
theorem foot_mem {v : Value} {g : Nat} (hv : v ∈ ve :: vc :: ys ++ cs.map (·.1) ++ cs.map (·.2)) (hg : v.ownBlock = some g) : g ∈ foot p ve vc ys cs :=
  List.mem_cons_of_mem _ (List.mem_filterMap.2 ⟨v, hv, hg⟩)
theorem Stk.stayF (h : Stk w B p s ve vc ys cs) (hk : ∀ g ∈ foot p ve vc ys cs, w'.heap[g]? = w.heap[g]?) : Stk w' B p s ve vc ys cs := by
  have ho : ∀ {t size n : Nat} {v : Value} {xs : List Value}, w.ownsRow B t size v n xs → v ∈ ve :: vc :: ys ++ cs.map (·.1) ++ cs.map (·.2) → w'.ownsRow B t size v n xs := fun h1 hv => own_stay h1 fun g hg => hk g (foot_mem hv hg)
  refine ⟨(hk p List.mem_cons_self).trans h.box, h.low, ho h.envs (by simp), ho h.chs (by simp), h.ylen, h.clen, fun i x v hx hv => ho (h.yrow i x v hx hv) ?_, fun i x v hx hv => ⟨ho (h.crow i x v hx hv).1 ?_, ho (h.crow i x v hx hv).2 ?_⟩, h.nodup⟩
  · simp [List.mem_of_getElem? hv]
  · exact List.mem_append_left _ (List.mem_append_right _ (List.mem_map.2 ⟨v, List.mem_of_getElem? hv, rfl⟩))
  · exact List.mem_append_right _ (List.mem_map.2 ⟨v, List.mem_of_getElem? hv, rfl⟩)
theorem Stk.foot_lt (h : Stk w B p s ve vc ys cs) : ∀ g ∈ foot p ve vc ys cs, g < w.heap.size := by
  intro g hg
  rcases List.mem_cons.1 hg with rfl | hg
  · exact h.box.lt
  · obtain ⟨v, hv, e⟩ := List.mem_filterMap.1 hg
    rcases List.mem_append.1 hv with hv | hv
    · rcases List.mem_append.1 hv with hv | hv
      · rcases List.mem_cons.1 hv with rfl | hv
        · exact (h.envs.lt g e).2
        · rcases List.mem_cons.1 hv with rfl | hv
          · exact (h.chs.lt g e).2
          · obtain ⟨i, hi⟩ := List.mem_iff_getElem?.1 hv
            have hl := (List.getElem?_eq_some_iff.1 hi).1
            exact ((h.yrow i _ v (List.getElem?_eq_getElem (by rw [← h.ylen]; exact hl)) hi).lt g e).2
      · obtain ⟨u, hu, rfl⟩ := List.mem_map.1 hv
        obtain ⟨i, hi⟩ := List.mem_iff_getElem?.1 hu
        have hl := (List.getElem?_eq_some_iff.1 hi).1
        exact ((h.crow i _ u (List.getElem?_eq_getElem (by rw [← h.clen]; exact hl)) hi).1.lt g e).2
    · obtain ⟨u, hu, rfl⟩ := List.mem_map.1 hv
      obtain ⟨i, hi⟩ := List.mem_iff_getElem?.1 hu
      have hl := (List.getElem?_eq_some_iff.1 hi).1
      exact ((h.crow i _ u (List.getElem?_eq_getElem (by rw [← h.clen]; exact hl)) hi).2.lt g e).2
end
theorem Kept.updNew {F : List Nat} {q : Nat} {w w1 w2 : World} (h : Kept F w w1) (hu : Upd q w1 w2) (hq : w.heap.size ≤ q) : Kept F w w2 :=
  ⟨hu.os.trans h.os, hu.tape.trans h.tape, hu.output.trans h.output, by rw [hu.size]; exact h.size, fun g hg hf => (hu.block g (by omega)).trans (h.block g hg hf)⟩
/-- a choice point as one value -/
@[reducible] def chV (x : Ch) (v : Value × Value) : Value := .agg #[.int .i64 x.kind, v.1, .int .i64 x.env, .int .i64 x.id, .int .i64 x.pc, .int .i64 x.cut, .int .i64 x.mark, .int .i64 x.top, .int .i64 x.envs, v.2, .int .i64 x.data]
@[reducible] def chZ : Value := .agg #[.int .i64 0, .slice none 0 0, .int .i64 0, .int .i64 0, .int .i64 0, .int .i64 0, .int .i64 0, .int .i64 0, .int .i64 0, .slice none 0 0, .int .i64 0]
/-- the state behind Pop, where there are n + 1 choice points, the last one x -/
def popV (s : St) (n : Nat) (x : Ch) : St := dropV ⟨s.envs, x.env, s.chs.take n⟩
set_option maxHeartbeats 2000000 in
theorem pop_no {B p : Nat} {s : St} {ve vc : Value} {ys : List Value} {cs : List (Value × Value)} (w : World) (h : Stk w B p s ve vc ys cs) (hc : s.chs = []) :
    Calls Try.prog 14 #[.pointer (some ⟨p, 0, none⟩)] w (RetP B p (foot p ve vc ys cs) (.tuple #[chZ, .int .i64 5]) s w) := by
  obtain ⟨A', c', rfl, -⟩ := own_form h.chs
  have hn : s.chs.length = 0 := by rw [hc]; rfl
  obtain ⟨c0, c1, c2⟩ := h.cells
  rw [hn] at c2
  have hl := h.box.lt
  have H := Lib.hid h
  clear h hc hn
  go_enter Try.func14, Try.ntmps14
  go_wp2_with fail
  refine bodyPost_ret (v := .tuple #[chZ, .int .i64 5]) (by simp only [results, Try.results14]; go_simp) rfl ?_
  exact ⟨rfl, ⟨_, _, _, _, H.out.next (bAlloc _ _), fun g hg => .inl hg⟩, Kept.below (bAlloc _ _)⟩
set_option maxHeartbeats 2000000 in
theorem pop_any {B p n : Nat} {s : St} {x : Ch} {v : Value × Value} {ve vc : Value} {ys : List Value} {cs : List (Value × Value)} (w : World) (h : Stk w B p s ve vc ys cs) (hn : s.envs.length ≤ 1000000000000) (hnc : s.chs.length ≤ 1000000000000) (hlen : s.chs.length = n + 1) (hx : s.chs[n]? = some x) (hv : cs[n]? = some v) :
    Calls Try.prog 14 #[.pointer (some ⟨p, 0, none⟩)] w fun e w' => RetP B p (foot p ve vc ys cs) (.tuple #[chV x v, .int .i64 0]) (popV s n x) w e w' ∧ w'.ownsRow B 38 2 v.1 x.args.length (cCs x.args) ∧ w'.ownsRow B 2 1 v.2 x.alts.length (iCs x.alts) := by
  obtain ⟨A, c, rfl, -⟩ := own_form h.envs
  obtain ⟨g, cap, v', rfl, hcap, hv', k0, k1, k2, k3, k4, k5, k6, k7, k8, k9, k10⟩ := h.chAt hx
  obtain rfl : v' = v := by rw [hv] at hv'; injection hv' with e; exact e.symm
  obtain ⟨r1, r2⟩ := h.crow n x v' hx hv
  obtain ⟨c0, c1, c2⟩ := h.cells
  have hl := h.box.lt
  have hgl := (h.chs.lt g rfl).2
  have f1 := h.box.frozen 1
  have f2 := h.box.frozen 2
  rw [hlen] at c2 hcap
  have H := Lib.hid h
  obtain ⟨va, vb⟩ := v'
  dsimp only at k1 k9 r1 r2 ⊢
  obtain ⟨Aa, ca, rfl, -⟩ := own_form r1
  obtain ⟨Ab, cb, rfl, -⟩ := own_form r2
  clear h hv'
  have hu1 := ((Upd.refl p w).set 2 (.slice (some ⟨g, 0, none⟩) n cap)).set 1 (.int .i64 x.env)
  have hb1 := (H.out.box.set_ 2 (.slice (some ⟨g, 0, none⟩) n cap)).set_ 1 (.int .i64 x.env)
  obtain ⟨W1, HW1⟩ : ∃ X, Hid (X = (w.setCell ⟨p, 2, none⟩ (.slice (some ⟨g, 0, none⟩) n cap)).setCell ⟨p, 1, none⟩ (.int .i64 x.env)) := ⟨_, rfl⟩
  rw [← HW1.out] at hu1 hb1
  have hs1 := H.out.boxed hu1 rfl rfl (Nat.le_refl _) (by omega : n ≤ s.chs.length) (e := x.env) (by simpa using hb1)
  have hy : ys.take s.envs.length = ys := by rw [← H.out.ylen, List.take_length]
  rw [List.take_length, hy] at hs1
  have hnl : (s.chs.take n).length = n := by rw [List.length_take]; omega
  obtain ⟨W2, HW2⟩ : ∃ X, Hid (X = W1.alloc (.cells #[.int .i64 x.kind, .slice Aa x.args.length ca, .int .i64 x.env, .int .i64 x.id, .int .i64 x.pc, .int .i64 x.cut, .int .i64 x.mark, .int .i64 x.top, .int .i64 x.envs, .slice Ab x.alts.length cb, .int .i64 x.data] 29)) := ⟨_, rfl⟩
  have hb2 : Below W1.heap.size W1 W2 := by rw [HW2.out]; exact bAlloc _ _
  have hk2 : Blk W2 W1.heap.size 29 #[.int .i64 x.kind, .slice Aa x.args.length ca, .int .i64 x.env, .int .i64 x.id, .int .i64 x.pc, .int .i64 x.cut, .int .i64 x.mark, .int .i64 x.top, .int .i64 x.envs, .slice Ab x.alts.length cb, .int .i64 x.data] := by rw [HW2.out]; exact Blk.new _ _ _
  have hs2 := hs1.next hb2
  have hd := drop_any W2 hs2 hn (by show (s.chs.take n).length ≤ _; omega)
  have hq : W1.heap.size = w.heap.size := hu1.size
  have hpq : W1.heap.size ≠ p := by omega
  rw [hq] at hk2 hpq
  have HD := Lib.hid hd
  have HS2 := Lib.hid hs2
  have HU1 := Lib.hid hu1
  have HB2 := Lib.hid hb2
  have HK2 := Lib.hid hk2
  have HR1 := Lib.hid r1
  have HR2 := Lib.hid r2
  have HFL := Lib.hid H.out.foot_lt
  have HQ := Lib.hid hq
  clear hu1 hb1 hs1 hy hb2 hk2 hs2 hd r1 r2 hq
  go_enter Try.func14, Try.ntmps14
  go_upto_region 9 with fail
  rw [← HW1.out, ← HW2.out]
  clear HW1 HW2
  go_wp2_with fail
  refine HD.out.mono ?_
  rintro e w3 ⟨rfl, hu3, hb3⟩
  have HS3 := Lib.hid (HS2.out.dropped hu3 hb3)
  have HU3 := Lib.hid hu3
  have hk3 : Blk w3 w.heap.size 29 #[.int .i64 x.kind, .slice Aa x.args.length ca, .int .i64 x.env, .int .i64 x.id, .int .i64 x.pc, .int .i64 x.cut, .int .i64 x.mark, .int .i64 x.top, .int .i64 x.envs, .slice Ab x.alts.length cb, .int .i64 x.data] := (hu3.block _ hpq).trans HK2.out
  have q3l := hk3.lt
  have q0 := hk3.cell 0
  have q1 := hk3.cell 1
  have q2 := hk3.cell 2
  have q3 := hk3.cell 3
  have q4 := hk3.cell 4
  have q5 := hk3.cell 5
  have q6 := hk3.cell 6
  have q7 := hk3.cell 7
  have q8 := hk3.cell 8
  have q9 := hk3.cell 9
  have q10 := hk3.cell 10
  simp at q0 q1 q2 q3 q4 q5 q6 q7 q8 q9 q10
  have fq0 := hk3.frozen 0
  have fq1 := hk3.frozen 1
  have fq2 := hk3.frozen 2
  have fq3 := hk3.frozen 3
  have fq4 := hk3.frozen 4
  have fq5 := hk3.frozen 5
  have fq6 := hk3.frozen 6
  have fq7 := hk3.frozen 7
  have fq8 := hk3.frozen 8
  have fq9 := hk3.frozen 9
  have fq10 := hk3.frozen 10
  clear hu3 hb3
  go_wp2_with fail
  have hu4 := (((((((((((Upd.refl w.heap.size w3).set 0 (.int .i64 x.kind)).set 1 (.slice Aa x.args.length ca)).set 2 (.int .i64 x.env)).set 3 (.int .i64 x.id)).set 4 (.int .i64 x.pc)).set 5 (.int .i64 x.cut)).set 6 (.int .i64 x.mark)).set 7 (.int .i64 x.top)).set 8 (.int .i64 x.envs)).set 9 (.slice Ab x.alts.length cb)).set 10 (.int .i64 x.data)
  refine bodyPost_ret (v := .tuple #[.agg #[.int .i64 x.kind, .slice Aa x.args.length ca, .int .i64 x.env, .int .i64 x.id, .int .i64 x.pc, .int .i64 x.cut, .int .i64 x.mark, .int .i64 x.top, .int .i64 x.envs, .slice Ab x.alts.length cb, .int .i64 x.data], .int .i64 0]) (by simp only [results, Try.results14]; go_simp) rfl ?_
  have hlt := HFL.out
  have hsub : ∀ k ∈ foot p (.slice A (keepN ⟨s.envs, x.env, s.chs.take n⟩) c) (.slice (some ⟨g, 0, none⟩) n cap) (ys.take (keepN ⟨s.envs, x.env, s.chs.take n⟩)) (cs.take n), k ∈ foot p (.slice A s.envs.length c) (.slice (some ⟨g, 0, none⟩) s.chs.length cap) ys cs := fun k hk => foot_sub _ _ k hk
  have hstay : ∀ {t size m : Nat} {u : Value} {xs : List Value}, w.ownsRow B t size u m xs → t ≠ 25 → ∀ k, u.ownBlock = some k → _ := fun ho ht k hk =>
    (hu4.block k (Nat.ne_of_lt (ho.lt k hk).2)).trans ((HU3.out.block k (own_ne ho H.out.box ht hk)).trans ((HB2.out.block k (by rw [HQ.out]; exact (ho.lt k hk).2)).trans (HU1.out.block k (own_ne ho H.out.box ht hk))))
  refine ⟨⟨rfl, ⟨_, _, _, _, HS3.out.stayF fun k hk => hu4.block k (Nat.ne_of_lt (hlt k (hsub k hk))), fun k hk => .inl (hsub k hk)⟩, ?_⟩, own_stay HR1.out (hstay HR1.out (by decide)), own_stay HR2.out (hstay HR2.out (by decide))⟩
  exact (((Kept.upd HU1.out List.mem_cons_self).trans (Kept.below HB2.out)).trans (Kept.upd HU3.out List.mem_cons_self)).updNew hu4 (Nat.le_refl _)
end Go.Proofs.Ytpkpffnabcgcbaa
