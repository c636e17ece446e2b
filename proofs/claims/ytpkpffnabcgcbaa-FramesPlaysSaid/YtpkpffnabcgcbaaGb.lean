/-
  The walk of the law's awake.
-/
import Derived.Test.YtpkpffnabcgcbaaGa
namespace Go.Proofs.Ytpkpffnabcgcbaa
open Go.RowKit

def e1 : En := ⟨0, 7, 3, [⟨1, 0⟩, ⟨1, 0⟩]⟩
def e2 : En := ⟨0, 7, 3, [⟨1, 5⟩, ⟨1, 0⟩]⟩
def e3 : En := ⟨0, 7, 3, [⟨1, 5⟩, ⟨1, 6⟩]⟩
def ch4 : Ch := ⟨4, [], 1, 0, 0, 0, 0, 0, 1, [], 0⟩
def ch0 : Ch := ⟨0, [], 1, 0, 0, 0, 0, 0, 1, [], 0⟩
def ch4' : Ch := ⟨4, [], 0, 0, 0, 0, 0, 0, 0, [], 0⟩
def s0 : St := ⟨[], 0, []⟩
def s1 : St := ⟨[e1], 1, []⟩
def s2 : St := ⟨[e2], 1, []⟩
def s3 : St := ⟨[e2], 1, [ch4]⟩
def s4 : St := ⟨[e2, e3], 2, [ch4]⟩
def s6 : St := ⟨[e2], 1, [ch0]⟩
def s7 : St := ⟨[e2], 0, [ch0]⟩
theorem z0 : Sized s0 := ⟨by decide, by decide, by simp [s0], by decide⟩
theorem z1 : Sized s1 := ⟨by decide, by decide, by simp [s1, e1], by decide⟩
theorem z2 : Sized s2 := ⟨by decide, by decide, by simp [s2, e2], by decide⟩
theorem z3 : Sized s3 := ⟨by decide, by decide, by simp [s3, e2], by decide⟩
theorem z4 : Sized s4 := ⟨by decide, by decide, by simp [s4, e2, e3], by decide⟩
theorem z6 : Sized s6 := ⟨by decide, by decide, by simp [s6, e2], by decide⟩
theorem z7 : Sized s7 := ⟨by decide, by decide, by simp [s7, e2], by decide⟩
theorem v1 : freeV s0 = .error 5 := rfl
theorem v2 : getV s0 1 = .error 5 := rfl
theorem v3 : popR s0 = .error 5 := rfl
theorem v4 : cutV s0 1 = .error 1 := rfl
theorem v5 : allocV s0 2 7 3 = .ok s1 := rfl
theorem v6 : setV s1 1 ⟨1, 5⟩ = .ok s2 := rfl
theorem v7 : isV s2 1 ⟨1, 5⟩ = true := rfl
theorem v8 : isV s2 2 ⟨1, 0⟩ = true := rfl
theorem v9 : pushV s2 ch4' = .ok s3 := rfl
theorem v10 : setV s3 2 ⟨1, 6⟩ = .ok s4 := rfl
theorem v11 : isV s4 1 ⟨1, 5⟩ = true := rfl
theorem v12 : isV s4 2 ⟨1, 6⟩ = true := rfl
theorem v13 : popR s4 = .ok (s2, ch4) := rfl
theorem v14 : pushV s2 chO = .ok s6 := rfl
theorem v15 : freeV s6 = .ok (s7, 7, 3) := rfl
theorem v16 : cutV s7 0 = .ok s0 := rfl
section
variable {B p : Nat}
theorem c1 (w : World) (h : OwnP w B p s0) : Calls Try.prog 29 #[.pointer (some ⟨p, 0, none⟩)] w (RetO B p (.tuple #[.int .i64 0, .int .i64 0, .int .i64 5]) s0 w) := by
  have h := free_own w h z0
  rw [v1] at h
  exact h
theorem c3 (w : World) (h : OwnP w B p s0) : Calls Try.prog 14 #[.pointer (some ⟨p, 0, none⟩)] w (RetC B p chO 5 s0 w) := by
  have h := pop_own w h z0
  rw [v3] at h
  exact h
theorem c4 (w : World) (h : OwnP w B p s0) : Calls Try.prog 13 #[.pointer (some ⟨p, 0, none⟩), .int .i64 1] w (RetO B p (.int .i64 1) s0 w) := by
  have h := cut_own 1 w h z0
  rw [v4] at h
  exact h
theorem c5 (w : World) (h : OwnP w B p s0) : Calls Try.prog 27 #[.pointer (some ⟨p, 0, none⟩), .int .i64 2, .int .i64 7, .int .i64 3] w (RetO B p (.int .i64 0) s1 w) := by
  have h := alloc_own 2 7 3 w h z0
  rw [v5] at h
  exact h
theorem c6 (w : World) (h : OwnP w B p s1) : Calls Try.prog 20 #[.pointer (some ⟨p, 0, none⟩), .int .i64 1, .agg #[.int .i64 1, .int .i64 5]] w (RetO B p (.int .i64 0) s2 w) := by
  have h := set_own 1 ⟨1, 5⟩ w h z1
  rw [v6] at h
  exact h
theorem nilR (w : World) (xs : List Value) : RowIn w none xs := fun ad ha => by cases ha
theorem nilC : CapOk none 0 0 := ⟨Nat.le_refl _, fun _ => rfl⟩
theorem c9 (w : World) (h : OwnP w B p s2) : Calls Try.prog 11 #[.pointer (some ⟨p, 0, none⟩), .agg #[.int .i64 4, .slice none 0 0, .int .i64 0, .int .i64 0, .int .i64 0, .int .i64 0, .int .i64 0, .int .i64 0, .int .i64 0, .slice none 0 0, .int .i64 0]] w (RetO B p (.int .i64 0) s3 w) := by
  have h := push_own (x := ch4') (Aa := none) (Ab := none) (ca := 0) (cb := 0) w h z2 nilC (nilR _ _) (by decide) nilC (nilR _ _) (by decide)
  rw [v9] at h
  exact h
theorem c10 (w : World) (h : OwnP w B p s3) : Calls Try.prog 20 #[.pointer (some ⟨p, 0, none⟩), .int .i64 2, .agg #[.int .i64 1, .int .i64 6]] w (RetO B p (.int .i64 0) s4 w) := by
  have h := set_own 2 ⟨1, 6⟩ w h z3
  rw [v10] at h
  exact h
theorem c13 (w : World) (h : OwnP w B p s4) : Calls Try.prog 14 #[.pointer (some ⟨p, 0, none⟩)] w (RetC B p ch4 0 s2 w) := by
  have h := pop_own w h z4
  rw [v13] at h
  exact h
theorem c14 (w : World) (h : OwnP w B p s2) : Calls Try.prog 11 #[.pointer (some ⟨p, 0, none⟩), .agg #[.int .i64 0, .slice none 0 0, .int .i64 0, .int .i64 0, .int .i64 0, .int .i64 0, .int .i64 0, .int .i64 0, .int .i64 0, .slice none 0 0, .int .i64 0]] w (RetO B p (.int .i64 0) s6 w) := by
  have h := push_own (x := chO) (Aa := none) (Ab := none) (ca := 0) (cb := 0) w h z2 nilC (nilR _ _) (by decide) nilC (nilR _ _) (by decide)
  rw [v14] at h
  exact h
theorem c15 (w : World) (h : OwnP w B p s6) : Calls Try.prog 29 #[.pointer (some ⟨p, 0, none⟩)] w (RetO B p (.tuple #[.int .i64 7, .int .i64 3, .int .i64 0]) s7 w) := by
  have h := free_own w h z6
  rw [v15] at h
  exact h
theorem c16 (w : World) (h : OwnP w B p s7) : Calls Try.prog 13 #[.pointer (some ⟨p, 0, none⟩), .int .i64 0] w (RetO B p (.int .i64 0) s0 w) := by
  have h := cut_own 0 w h z7
  rw [v16] at h
  exact h
/-- the cells of the box, the rows as slices -/
theorem OwnP.open {w : World} {s : St} (h : OwnP w B p s) : ∃ A c A' c' ys cs, Stk w B p s (.slice A s.envs.length c) (.slice A' s.chs.length c') ys cs := by
  obtain ⟨ve, vc, ys, cs, h⟩ := h
  obtain ⟨A, c, rfl, -⟩ := own_form h.envs
  obtain ⟨A', c', rfl, -⟩ := own_form h.chs
  exact ⟨_, _, _, _, _, _, h⟩
theorem is_own {w : World} {s : St} {ve vc : Value} {ys : List Value} {cs : List (Value × Value)} (y : Int) (t n : Int) (h : Stk w B p s ve vc ys cs) (hz : Sized s) (hv : isV s y ⟨t, n⟩ = true) :
    Calls Try.prog 30 #[.agg #[ve, .int .i64 s.e, vc], .int .i64 y, .agg #[.int .i64 t, .int .i64 n]] w fun e w' => e = .returned (.bool true) ∧ Below w.heap.size w w' := by
  have h := is_any y ⟨t, n⟩ w h hz.envs hz.y
  rw [hv] at h
  exact h
theorem get_own {w : World} {s : St} {ve vc : Value} {ys : List Value} {cs : List (Value × Value)} (y : Int) (h : Stk w B p s ve vc ys cs) (hz : Sized s) :
    Calls Try.prog 32 #[.agg #[ve, .int .i64 s.e, vc], .int .i64 y] w fun e w' => e = .returned (getT (getV s y)) ∧ Below w.heap.size w w' := get_any y w h hz.envs hz.y
end
set_option maxHeartbeats 8000000 in
set_option maxRecDepth 100000 in
theorem awake_any (w : World) : Calls Try.prog 9 #[] w fun e w' => e = .returned (.bool true) ∧ Below w.heap.size w w' := by
  obtain ⟨W, HW⟩ : ∃ X, Hid (X = w.alloc (.cells #[.slice none 0 0, .int .i64 0, .slice none 0 0] 25)) := ⟨_, rfl⟩
  have hbW : Below w.heap.size w W := by rw [HW.out]; exact bAlloc _ _
  obtain ⟨q, hq⟩ : ∃ q, Hid (q = w.heap.size) := ⟨_, rfl⟩
  have hk0 : Blk W q 25 #[.slice none 0 0, .int .i64 0, .slice none 0 0] := by rw [HW.out, hq.out]; exact Blk.new w _ _
  have HB : Hid (Below q w W) := Lib.hid (by rw [hq.out]; exact hbW)
  have hqw : q ≤ w.heap.size := by rw [hq.out]; exact Nat.le_refl _
  have H0 : Hid (OwnP W q q s0) := Lib.hid ⟨.slice none 0 0, .slice none 0 0, [], [], hk0, Nat.le_refl _, World.ownsRow_nil _ _ _ _, World.ownsRow_nil _ _ _ _, rfl, rfl, fun i x v hx => by simp [s0] at hx, fun i x v hx => by simp [s0] at hx, List.nodup_nil⟩
  clear hbW hk0
  go_enter Try.func9, Try.ntmps9
  go_upto_region 2 with fail
  rw [← HW.out, ← hq.out]
  clear HW
  go_wp2_with fail
  refine (c1 _ H0.out).mono ?_
  rintro e w1 ⟨rfl, h1, hb1⟩
  have H1 := Lib.hid h1
  have HB1 := Lib.hid (HB.out.trans hb1)
  clear h1 hb1 H0 HB
  have H0 := H1
  have HB := HB1
  clear H1 HB1
  obtain ⟨A, c, A', c', ys, cs, hs⟩ := H0.out.open
  obtain ⟨t0, t1, t2⟩ := hs.cells
  have tl := hs.box.lt
  go_wp2_with fail
  refine (get_own 1 hs z0).mono ?_
  rw [v2]
  rintro e w2 ⟨rfl, hb2⟩
  have H1 := Lib.hid (H0.out.next hb2)
  have HB1 := Lib.hid (HB.out.trans (hb2.mono (by have := hs.low; omega)))
  clear H0 HB t0 t1 t2 tl hs hb2
  dsimp only [getT]
  go_upto_region 4 with fail
  obtain ⟨X, HX⟩ : ∃ X, Hid (X = w2.alloc (.cells #[.int .i64 0, .int .i64 0] 38)) := ⟨_, rfl⟩
  have hbX : Below w2.heap.size w2 X := by rw [HX.out]; exact bAlloc _ _
  have H0 := Lib.hid (H1.out.next hbX)
  have HB := Lib.hid (HB1.out.trans (hbX.mono (by obtain ⟨_, _, _, _, h⟩ := H1.out; have := h.low; have := h.box.lt; omega)))
  rw [← HX.out]
  clear HX hbX H1 HB1
  go_wp2_with fail
  refine (c3 _ H0.out).mono ?_
  rintro e w3 ⟨B1, b1, B2, b2, ⟨rfl, h1, hb1⟩, -, -⟩
  have H1 := Lib.hid h1
  have HB1 := Lib.hid (HB.out.trans hb1)
  clear h1 hb1 H0 HB
  go_upto_region 5 with fail
  obtain ⟨X, HX⟩ : ∃ X, Hid (X = w3.alloc (.cells #[.int .i64 chO.kind, .slice B1 chO.args.length b1, .int .i64 chO.env, .int .i64 chO.id, .int .i64 chO.pc, .int .i64 chO.cut, .int .i64 chO.mark, .int .i64 chO.top, .int .i64 chO.envs, .slice B2 chO.alts.length b2, .int .i64 chO.data] 29)) := ⟨_, rfl⟩
  have hbX : Below w3.heap.size w3 X := by rw [HX.out]; exact bAlloc _ _
  have H0 := Lib.hid (H1.out.next hbX)
  have HB := Lib.hid (HB1.out.trans (hbX.mono (by obtain ⟨_, _, _, _, h⟩ := H1.out; have := h.low; have := h.box.lt; omega)))
  rw [← HX.out]
  clear HX hbX H1 HB1
  go_wp2_with fail
  refine (c4 _ H0.out).mono ?_
  rintro e w1 ⟨rfl, h1, hb1⟩
  have H1 := Lib.hid h1
  have HB1 := Lib.hid (HB.out.trans hb1)
  clear h1 hb1 H0 HB
  have H0 := H1
  have HB := HB1
  clear H1 HB1
  go_upto_region 8 with fail
  go_cut [64] from 46 to 64 (fun s64 wx => s64 = .bool false ∧ Hid (OwnP wx q q s2 ∧ Below q w wx))
  case first =>
    obtain ⟨X0, HX0⟩ : ∃ X, Hid (X = w1.drew) := ⟨_, rfl⟩
    have hd0 : Below w1.heap.size w1 X0 := by rw [HX0.out]; exact bDrew _
    have H1 := Lib.hid (H0.out.next hd0)
    have HB1 := Lib.hid (HB.out.trans (hd0.mono (by obtain ⟨_, _, _, _, h⟩ := H0.out; have := h.low; have := h.box.lt; omega)))
    refine wp_region_N (fun _ => True) (fun _ => true) (by kernel_rfl) ?_
    rw [← HX0.out]
    clear HX0 hd0 H0 HB
    have H0 := H1
    have HB := HB1
    clear H1 HB1
    have hS0 : (fun _ : World => True) X0 := trivial
    refine wpAnyN_one (i := 0) (by kernel_rfl) rfl (fun K hK => ?_)
    simp only [List.getElem_toArray, List.getElem_cons_zero]
    go_simp
    refine (c5 _ H0.out).mono ?_
    rintro e w1 ⟨rfl, h1, hb1⟩
    have H1 := Lib.hid h1
    have HB1 := Lib.hid (HB.out.trans hb1)
    clear h1 hb1 H0 HB
    have H0 := H1
    have HB := HB1
    clear H1 HB1
    refine hK _ _ (fun _ => trivial) ?_
    (try simp only [Act.put, List.setIfInBounds_toArray, List.set_cons_zero, List.set_cons_succ])
    refine wpAnyN_one (i := 1) (by kernel_rfl) rfl (fun K hK => ?_)
    simp only [List.getElem_toArray, List.getElem_cons_zero, List.getElem_cons_succ]
    go_simp
    refine hK _ _ (fun _ => trivial) ?_
    (try simp only [Act.put, List.setIfInBounds_toArray, List.set_cons_zero, List.set_cons_succ])
    refine wpAnyN_one (i := 2) (by kernel_rfl) rfl (fun K hK => ?_)
    simp only [List.getElem_toArray, List.getElem_cons_zero, List.getElem_cons_succ]
    go_simp
    refine hK _ _ (fun _ => trivial) ?_
    (try simp only [Act.put, List.setIfInBounds_toArray, List.set_cons_zero, List.set_cons_succ])
    refine wpAnyN_one (i := 3) (by kernel_rfl) rfl (fun K hK => ?_)
    simp only [List.getElem_toArray, List.getElem_cons_zero, List.getElem_cons_succ]
    go_simp
    refine (cell_any 5 _).mono ?_
    rintro e w1 ⟨rfl, hb1⟩
    have H1 := Lib.hid (H0.out.next hb1)
    have HB1 := Lib.hid (HB.out.trans (hb1.mono (by obtain ⟨_, _, _, _, h⟩ := H0.out; have := h.low; have := h.box.lt; omega)))
    clear hb1 H0 HB
    have H0 := H1
    have HB := HB1
    clear H1 HB1
    refine hK _ _ (fun _ => trivial) ?_
    (try simp only [Act.put, List.setIfInBounds_toArray, List.set_cons_zero, List.set_cons_succ])
    refine wpAnyN_one (i := 4) (by kernel_rfl) rfl (fun K hK => ?_)
    simp only [List.getElem_toArray, List.getElem_cons_zero, List.getElem_cons_succ]
    go_simp
    refine (c6 _ H0.out).mono ?_
    rintro e w1 ⟨rfl, h1, hb1⟩
    have H1 := Lib.hid h1
    have HB1 := Lib.hid (HB.out.trans hb1)
    clear h1 hb1 H0 HB
    have H0 := H1
    have HB := HB1
    clear H1 HB1
    refine hK _ _ (fun _ => trivial) ?_
    (try simp only [Act.put, List.setIfInBounds_toArray, List.set_cons_zero, List.set_cons_succ])
    refine wpAnyN_one (i := 5) (by kernel_rfl) rfl (fun K hK => ?_)
    simp only [List.getElem_toArray, List.getElem_cons_zero, List.getElem_cons_succ]
    go_simp
    refine hK _ _ (fun _ => trivial) ?_
    (try simp only [Act.put, List.setIfInBounds_toArray, List.set_cons_zero, List.set_cons_succ])
    refine wpAnyN_one (i := 6) (by kernel_rfl) rfl (fun K hK => ?_)
    simp only [List.getElem_toArray, List.getElem_cons_zero, List.getElem_cons_succ]
    go_simp
    refine hK _ _ (fun _ => trivial) ?_
    (try simp only [Act.put, List.setIfInBounds_toArray, List.set_cons_zero, List.set_cons_succ])
    refine wpAnyN_one (i := 7) (by kernel_rfl) rfl (fun K hK => ?_)
    simp only [List.getElem_toArray, List.getElem_cons_zero, List.getElem_cons_succ]
    go_simp
    refine hK _ _ (fun _ => trivial) ?_
    (try simp only [Act.put, List.setIfInBounds_toArray, List.set_cons_zero, List.set_cons_succ])
    obtain ⟨A, c, A', c', ys, cs, hs⟩ := H0.out.open
    obtain ⟨t0, t1, t2⟩ := hs.cells
    have tl := hs.box.lt
    refine wpAnyN_two (i := 8) (j := 9) (by kernel_rfl) rfl rfl (fun K1 hK1 => ?_) (fun K1 hK1 => ?_)
    · simp only [List.getElem_toArray, List.getElem_cons_zero, List.getElem_cons_succ]
      go_simp
      refine hK1 _ _ (fun _ => trivial) ?_
      (try simp only [Act.put, List.setIfInBounds_toArray, List.set_cons_zero, List.set_cons_succ])
      refine wpAnyN_one (i := 9) (by kernel_rfl) rfl (fun K2 hK2 => ?_)
      simp only [List.getElem_toArray, List.getElem_cons_zero, List.getElem_cons_succ]
      go_simp
      refine (cell_any 5 _).mono ?_
      rintro e w9 ⟨rfl, hb9⟩
      have hs9 := hs.next hb9
      obtain ⟨u0, u1, u2⟩ := hs9.cells
      have ul := hs9.box.lt
      have HB9 := Lib.hid (HB.out.trans (hb9.mono (by obtain ⟨_, _, _, _, h⟩ := H0.out; have := h.low; have := h.box.lt; omega)))
      clear hb9 HB
      have HB := HB9
      clear HB9
      refine hK2 _ _ (fun _ => trivial) ?_
      (try simp only [Act.put, List.setIfInBounds_toArray, List.set_cons_zero, List.set_cons_succ])
      refine wpAnyN_one (i := 10) (by kernel_rfl) rfl (fun K3 hK3 => ?_)
      simp only [List.getElem_toArray, List.getElem_cons_zero, List.getElem_cons_succ]
      go_simp
      refine (is_own 1 1 5 hs9 z2 v7).mono ?_
      rintro e w10 ⟨rfl, hb10⟩
      have HA := Lib.hid (show OwnP w10 q q s2 from ⟨_, _, _, _, hs9.next hb10⟩)
      have HB9 := Lib.hid (HB.out.trans (hb10.mono (by have := hs9.low; have := hs9.box.lt; omega)))
      clear H0 HB hs9 hs hb10
      have H0 := HA
      have HB := HB9
      clear HA HB9
      refine hK3 _ _ (fun _ => trivial) ?_
      (try simp only [Act.put, List.setIfInBounds_toArray, List.set_cons_zero, List.set_cons_succ])
      refine wpAnyN_one (i := 11) (by kernel_rfl) rfl (fun K hK => ?_)
      simp only [List.getElem_toArray, List.getElem_cons_zero, List.getElem_cons_succ]
      go_simp
      refine hK _ _ (fun _ => trivial) ?_
      (try simp only [Act.put, List.setIfInBounds_toArray, List.set_cons_zero, List.set_cons_succ])
      refine wpAnyN_one (i := 12) (by kernel_rfl) rfl (fun K hK => ?_)
      simp only [List.getElem_toArray, List.getElem_cons_zero, List.getElem_cons_succ]
      go_simp
      refine hK _ _ (fun _ => trivial) ?_
      (try simp only [Act.put, List.setIfInBounds_toArray, List.set_cons_zero, List.set_cons_succ])
      refine wpAnyN_one (i := 13) (by kernel_rfl) rfl (fun K hK => ?_)
      simp only [List.getElem_toArray, List.getElem_cons_zero, List.getElem_cons_succ]
      go_simp
      refine hK _ _ (fun _ => trivial) ?_
      (try simp only [Act.put, List.setIfInBounds_toArray, List.set_cons_zero, List.set_cons_succ])
      obtain ⟨A, c, A', c', ys, cs, hs⟩ := H0.out.open
      obtain ⟨t0, t1, t2⟩ := hs.cells
      have tl := hs.box.lt
      refine wpAnyN_two (i := 14) (j := 15) (by kernel_rfl) rfl rfl (fun K1 hK1 => ?_) (fun K1 hK1 => ?_)
      · simp only [List.getElem_toArray, List.getElem_cons_zero, List.getElem_cons_succ]
        go_simp
        refine hK1 _ _ (fun _ => trivial) ?_
        (try simp only [Act.put, List.setIfInBounds_toArray, List.set_cons_zero, List.set_cons_succ])
        refine wpAnyN_one (i := 15) (by kernel_rfl) rfl (fun K2 hK2 => ?_)
        simp only [List.getElem_toArray, List.getElem_cons_zero, List.getElem_cons_succ]
        go_simp
        refine (cell_any 0 _).mono ?_
        rintro e w9 ⟨rfl, hb9⟩
        have hs9 := hs.next hb9
        obtain ⟨u0, u1, u2⟩ := hs9.cells
        have ul := hs9.box.lt
        have HB9 := Lib.hid (HB.out.trans (hb9.mono (by obtain ⟨_, _, _, _, h⟩ := H0.out; have := h.low; have := h.box.lt; omega)))
        clear hb9 HB
        have HB := HB9
        clear HB9
        refine hK2 _ _ (fun _ => trivial) ?_
        (try simp only [Act.put, List.setIfInBounds_toArray, List.set_cons_zero, List.set_cons_succ])
        refine wpAnyN_one (i := 16) (by kernel_rfl) rfl (fun K3 hK3 => ?_)
        simp only [List.getElem_toArray, List.getElem_cons_zero, List.getElem_cons_succ]
        go_simp
        refine (is_own 2 1 0 hs9 z2 v8).mono ?_
        rintro e w10 ⟨rfl, hb10⟩
        have HA := Lib.hid (show OwnP w10 q q s2 from ⟨_, _, _, _, hs9.next hb10⟩)
        have HB9 := Lib.hid (HB.out.trans (hb10.mono (by have := hs9.low; have := hs9.box.lt; omega)))
        clear H0 HB hs9 hs hb10
        have H0 := HA
        have HB := HB9
        clear HA HB9
        refine hK3 _ _ (fun _ => trivial) ?_
        (try simp only [Act.put, List.setIfInBounds_toArray, List.set_cons_zero, List.set_cons_succ])
        refine wpAnyN_one (i := 17) (by kernel_rfl) rfl (fun K hK => ?_)
        simp only [List.getElem_toArray, List.getElem_cons_zero, List.getElem_cons_succ]
        go_simp
        refine hK _ _ (fun _ => trivial) ?_
        (try simp only [Act.put, List.setIfInBounds_toArray, List.set_cons_zero, List.set_cons_succ])
        refine wpAnyN_one (i := 18) (by kernel_rfl) rfl (fun K hK => ?_)
        simp only [List.getElem_toArray, List.getElem_cons_zero, List.getElem_cons_succ]
        go_simp
        refine hK _ _ (fun _ => trivial) ?_
        (try simp only [Act.put, List.setIfInBounds_toArray, List.set_cons_zero, List.set_cons_succ])
        refine wpAnyN_done (by kernel_rfl) ?_ _
        go_wp2_with fail
        go_meet
        exact ⟨rfl, Lib.hid ⟨H0.out, HB.out⟩⟩
      · simp only [List.getElem_toArray, List.getElem_cons_zero, List.getElem_cons_succ]
        go_simp
        refine (cell_any 0 _).mono ?_
        rintro e w9 ⟨rfl, hb9⟩
        have hs9 := hs.next hb9
        obtain ⟨u0, u1, u2⟩ := hs9.cells
        have ul := hs9.box.lt
        have HB9 := Lib.hid (HB.out.trans (hb9.mono (by obtain ⟨_, _, _, _, h⟩ := H0.out; have := h.low; have := h.box.lt; omega)))
        clear hb9 HB
        have HB := HB9
        clear HB9
        refine hK1 _ _ (fun _ => trivial) ?_
        (try simp only [Act.put, List.setIfInBounds_toArray, List.set_cons_zero, List.set_cons_succ])
        refine wpAnyN_one (i := 14) (by kernel_rfl) rfl (fun K2 hK2 => ?_)
        simp only [List.getElem_toArray, List.getElem_cons_zero, List.getElem_cons_succ]
        go_simp
        refine hK2 _ _ (fun _ => trivial) ?_
        (try simp only [Act.put, List.setIfInBounds_toArray, List.set_cons_zero, List.set_cons_succ])
        refine wpAnyN_one (i := 16) (by kernel_rfl) rfl (fun K3 hK3 => ?_)
        simp only [List.getElem_toArray, List.getElem_cons_zero, List.getElem_cons_succ]
        go_simp
        refine (is_own 2 1 0 hs9 z2 v8).mono ?_
        rintro e w10 ⟨rfl, hb10⟩
        have HA := Lib.hid (show OwnP w10 q q s2 from ⟨_, _, _, _, hs9.next hb10⟩)
        have HB9 := Lib.hid (HB.out.trans (hb10.mono (by have := hs9.low; have := hs9.box.lt; omega)))
        clear H0 HB hs9 hs hb10
        have H0 := HA
        have HB := HB9
        clear HA HB9
        refine hK3 _ _ (fun _ => trivial) ?_
        (try simp only [Act.put, List.setIfInBounds_toArray, List.set_cons_zero, List.set_cons_succ])
        refine wpAnyN_one (i := 17) (by kernel_rfl) rfl (fun K hK => ?_)
        simp only [List.getElem_toArray, List.getElem_cons_zero, List.getElem_cons_succ]
        go_simp
        refine hK _ _ (fun _ => trivial) ?_
        (try simp only [Act.put, List.setIfInBounds_toArray, List.set_cons_zero, List.set_cons_succ])
        refine wpAnyN_one (i := 18) (by kernel_rfl) rfl (fun K hK => ?_)
        simp only [List.getElem_toArray, List.getElem_cons_zero, List.getElem_cons_succ]
        go_simp
        refine hK _ _ (fun _ => trivial) ?_
        (try simp only [Act.put, List.setIfInBounds_toArray, List.set_cons_zero, List.set_cons_succ])
        refine wpAnyN_done (by kernel_rfl) ?_ _
        go_wp2_with fail
        go_meet
        exact ⟨rfl, Lib.hid ⟨H0.out, HB.out⟩⟩
    · simp only [List.getElem_toArray, List.getElem_cons_zero, List.getElem_cons_succ]
      go_simp
      refine (cell_any 5 _).mono ?_
      rintro e w9 ⟨rfl, hb9⟩
      have hs9 := hs.next hb9
      obtain ⟨u0, u1, u2⟩ := hs9.cells
      have ul := hs9.box.lt
      have HB9 := Lib.hid (HB.out.trans (hb9.mono (by obtain ⟨_, _, _, _, h⟩ := H0.out; have := h.low; have := h.box.lt; omega)))
      clear hb9 HB
      have HB := HB9
      clear HB9
      refine hK1 _ _ (fun _ => trivial) ?_
      (try simp only [Act.put, List.setIfInBounds_toArray, List.set_cons_zero, List.set_cons_succ])
      refine wpAnyN_one (i := 8) (by kernel_rfl) rfl (fun K2 hK2 => ?_)
      simp only [List.getElem_toArray, List.getElem_cons_zero, List.getElem_cons_succ]
      go_simp
      refine hK2 _ _ (fun _ => trivial) ?_
      (try simp only [Act.put, List.setIfInBounds_toArray, List.set_cons_zero, List.set_cons_succ])
      refine wpAnyN_one (i := 10) (by kernel_rfl) rfl (fun K3 hK3 => ?_)
      simp only [List.getElem_toArray, List.getElem_cons_zero, List.getElem_cons_succ]
      go_simp
      refine (is_own 1 1 5 hs9 z2 v7).mono ?_
      rintro e w10 ⟨rfl, hb10⟩
      have HA := Lib.hid (show OwnP w10 q q s2 from ⟨_, _, _, _, hs9.next hb10⟩)
      have HB9 := Lib.hid (HB.out.trans (hb10.mono (by have := hs9.low; have := hs9.box.lt; omega)))
      clear H0 HB hs9 hs hb10
      have H0 := HA
      have HB := HB9
      clear HA HB9
      refine hK3 _ _ (fun _ => trivial) ?_
      (try simp only [Act.put, List.setIfInBounds_toArray, List.set_cons_zero, List.set_cons_succ])
      refine wpAnyN_one (i := 11) (by kernel_rfl) rfl (fun K hK => ?_)
      simp only [List.getElem_toArray, List.getElem_cons_zero, List.getElem_cons_succ]
      go_simp
      refine hK _ _ (fun _ => trivial) ?_
      (try simp only [Act.put, List.setIfInBounds_toArray, List.set_cons_zero, List.set_cons_succ])
      refine wpAnyN_one (i := 12) (by kernel_rfl) rfl (fun K hK => ?_)
      simp only [List.getElem_toArray, List.getElem_cons_zero, List.getElem_cons_succ]
      go_simp
      refine hK _ _ (fun _ => trivial) ?_
      (try simp only [Act.put, List.setIfInBounds_toArray, List.set_cons_zero, List.set_cons_succ])
      refine wpAnyN_one (i := 13) (by kernel_rfl) rfl (fun K hK => ?_)
      simp only [List.getElem_toArray, List.getElem_cons_zero, List.getElem_cons_succ]
      go_simp
      refine hK _ _ (fun _ => trivial) ?_
      (try simp only [Act.put, List.setIfInBounds_toArray, List.set_cons_zero, List.set_cons_succ])
      obtain ⟨A, c, A', c', ys, cs, hs⟩ := H0.out.open
      obtain ⟨t0, t1, t2⟩ := hs.cells
      have tl := hs.box.lt
      refine wpAnyN_two (i := 14) (j := 15) (by kernel_rfl) rfl rfl (fun K1 hK1 => ?_) (fun K1 hK1 => ?_)
      · simp only [List.getElem_toArray, List.getElem_cons_zero, List.getElem_cons_succ]
        go_simp
        refine hK1 _ _ (fun _ => trivial) ?_
        (try simp only [Act.put, List.setIfInBounds_toArray, List.set_cons_zero, List.set_cons_succ])
        refine wpAnyN_one (i := 15) (by kernel_rfl) rfl (fun K2 hK2 => ?_)
        simp only [List.getElem_toArray, List.getElem_cons_zero, List.getElem_cons_succ]
        go_simp
        refine (cell_any 0 _).mono ?_
        rintro e w9 ⟨rfl, hb9⟩
        have hs9 := hs.next hb9
        obtain ⟨u0, u1, u2⟩ := hs9.cells
        have ul := hs9.box.lt
        have HB9 := Lib.hid (HB.out.trans (hb9.mono (by obtain ⟨_, _, _, _, h⟩ := H0.out; have := h.low; have := h.box.lt; omega)))
        clear hb9 HB
        have HB := HB9
        clear HB9
        refine hK2 _ _ (fun _ => trivial) ?_
        (try simp only [Act.put, List.setIfInBounds_toArray, List.set_cons_zero, List.set_cons_succ])
        refine wpAnyN_one (i := 16) (by kernel_rfl) rfl (fun K3 hK3 => ?_)
        simp only [List.getElem_toArray, List.getElem_cons_zero, List.getElem_cons_succ]
        go_simp
        refine (is_own 2 1 0 hs9 z2 v8).mono ?_
        rintro e w10 ⟨rfl, hb10⟩
        have HA := Lib.hid (show OwnP w10 q q s2 from ⟨_, _, _, _, hs9.next hb10⟩)
        have HB9 := Lib.hid (HB.out.trans (hb10.mono (by have := hs9.low; have := hs9.box.lt; omega)))
        clear H0 HB hs9 hs hb10
        have H0 := HA
        have HB := HB9
        clear HA HB9
        refine hK3 _ _ (fun _ => trivial) ?_
        (try simp only [Act.put, List.setIfInBounds_toArray, List.set_cons_zero, List.set_cons_succ])
        refine wpAnyN_one (i := 17) (by kernel_rfl) rfl (fun K hK => ?_)
        simp only [List.getElem_toArray, List.getElem_cons_zero, List.getElem_cons_succ]
        go_simp
        refine hK _ _ (fun _ => trivial) ?_
        (try simp only [Act.put, List.setIfInBounds_toArray, List.set_cons_zero, List.set_cons_succ])
        refine wpAnyN_one (i := 18) (by kernel_rfl) rfl (fun K hK => ?_)
        simp only [List.getElem_toArray, List.getElem_cons_zero, List.getElem_cons_succ]
        go_simp
        refine hK _ _ (fun _ => trivial) ?_
        (try simp only [Act.put, List.setIfInBounds_toArray, List.set_cons_zero, List.set_cons_succ])
        refine wpAnyN_done (by kernel_rfl) ?_ _
        go_wp2_with fail
        go_meet
        exact ⟨rfl, Lib.hid ⟨H0.out, HB.out⟩⟩
      · simp only [List.getElem_toArray, List.getElem_cons_zero, List.getElem_cons_succ]
        go_simp
        refine (cell_any 0 _).mono ?_
        rintro e w9 ⟨rfl, hb9⟩
        have hs9 := hs.next hb9
        obtain ⟨u0, u1, u2⟩ := hs9.cells
        have ul := hs9.box.lt
        have HB9 := Lib.hid (HB.out.trans (hb9.mono (by obtain ⟨_, _, _, _, h⟩ := H0.out; have := h.low; have := h.box.lt; omega)))
        clear hb9 HB
        have HB := HB9
        clear HB9
        refine hK1 _ _ (fun _ => trivial) ?_
        (try simp only [Act.put, List.setIfInBounds_toArray, List.set_cons_zero, List.set_cons_succ])
        refine wpAnyN_one (i := 14) (by kernel_rfl) rfl (fun K2 hK2 => ?_)
        simp only [List.getElem_toArray, List.getElem_cons_zero, List.getElem_cons_succ]
        go_simp
        refine hK2 _ _ (fun _ => trivial) ?_
        (try simp only [Act.put, List.setIfInBounds_toArray, List.set_cons_zero, List.set_cons_succ])
        refine wpAnyN_one (i := 16) (by kernel_rfl) rfl (fun K3 hK3 => ?_)
        simp only [List.getElem_toArray, List.getElem_cons_zero, List.getElem_cons_succ]
        go_simp
        refine (is_own 2 1 0 hs9 z2 v8).mono ?_
        rintro e w10 ⟨rfl, hb10⟩
        have HA := Lib.hid (show OwnP w10 q q s2 from ⟨_, _, _, _, hs9.next hb10⟩)
        have HB9 := Lib.hid (HB.out.trans (hb10.mono (by have := hs9.low; have := hs9.box.lt; omega)))
        clear H0 HB hs9 hs hb10
        have H0 := HA
        have HB := HB9
        clear HA HB9
        refine hK3 _ _ (fun _ => trivial) ?_
        (try simp only [Act.put, List.setIfInBounds_toArray, List.set_cons_zero, List.set_cons_succ])
        refine wpAnyN_one (i := 17) (by kernel_rfl) rfl (fun K hK => ?_)
        simp only [List.getElem_toArray, List.getElem_cons_zero, List.getElem_cons_succ]
        go_simp
        refine hK _ _ (fun _ => trivial) ?_
        (try simp only [Act.put, List.setIfInBounds_toArray, List.set_cons_zero, List.set_cons_succ])
        refine wpAnyN_one (i := 18) (by kernel_rfl) rfl (fun K hK => ?_)
        simp only [List.getElem_toArray, List.getElem_cons_zero, List.getElem_cons_succ]
        go_simp
        refine hK _ _ (fun _ => trivial) ?_
        (try simp only [Act.put, List.setIfInBounds_toArray, List.set_cons_zero, List.set_cons_succ])
        refine wpAnyN_done (by kernel_rfl) ?_ _
        go_wp2_with fail
        go_meet
        exact ⟨rfl, Lib.hid ⟨H0.out, HB.out⟩⟩
  case rest =>
    obtain ⟨rfl, hc⟩ := hcut
    clear H0 HB
    have H0 := Lib.hid hc.out.1
    have HB := Lib.hid hc.out.2
    clear hc
    go_upto_region 10 with fail
    go_cut [95] from 65 to 95 (fun s95 wx => s95 = .bool false ∧ Hid (OwnP wx q q s4 ∧ Below q w wx))
    case first =>
      obtain ⟨X0, HX0⟩ : ∃ X, Hid (X = wc.drew) := ⟨_, rfl⟩
      have hd0 : Below wc.heap.size wc X0 := by rw [HX0.out]; exact bDrew _
      have H1 := Lib.hid (H0.out.next hd0)
      have HB1 := Lib.hid (HB.out.trans (hd0.mono (by obtain ⟨_, _, _, _, h⟩ := H0.out; have := h.low; have := h.box.lt; omega)))
      refine wp_region_N (fun _ => True) (fun _ => true) (by kernel_rfl) ?_
      rw [← HX0.out]
      clear HX0 hd0 H0 HB
      have H0 := H1
      have HB := HB1
      clear H1 HB1
      have hS0 : (fun _ : World => True) X0 := trivial
      refine wpAnyN_one (i := 0) (by kernel_rfl) rfl (fun K hK => ?_)
      simp only [List.getElem_toArray, List.getElem_cons_zero]
      go_simp
      refine hK _ _ (fun _ => trivial) ?_
      (try simp only [Act.put, List.setIfInBounds_toArray, List.set_cons_zero, List.set_cons_succ])
      refine wpAnyN_one (i := 1) (by kernel_rfl) rfl (fun K hK => ?_)
      simp only [List.getElem_toArray, List.getElem_cons_zero, List.getElem_cons_succ]
      go_simp
      refine (c9 _ H0.out).mono ?_
      rintro e w1 ⟨rfl, h1, hb1⟩
      have H1 := Lib.hid h1
      have HB1 := Lib.hid (HB.out.trans hb1)
      clear h1 hb1 H0 HB
      have H0 := H1
      have HB := HB1
      clear H1 HB1
      refine hK _ _ (fun _ => trivial) ?_
      (try simp only [Act.put, List.setIfInBounds_toArray, List.set_cons_zero, List.set_cons_succ])
      refine wpAnyN_one (i := 2) (by kernel_rfl) rfl (fun K hK => ?_)
      simp only [List.getElem_toArray, List.getElem_cons_zero, List.getElem_cons_succ]
      go_simp
      refine hK _ _ (fun _ => trivial) ?_
      (try simp only [Act.put, List.setIfInBounds_toArray, List.set_cons_zero, List.set_cons_succ])
      refine wpAnyN_one (i := 3) (by kernel_rfl) rfl (fun K hK => ?_)
      simp only [List.getElem_toArray, List.getElem_cons_zero, List.getElem_cons_succ]
      go_simp
      refine hK _ _ (fun _ => trivial) ?_
      (try simp only [Act.put, List.setIfInBounds_toArray, List.set_cons_zero, List.set_cons_succ])
      refine wpAnyN_one (i := 4) (by kernel_rfl) rfl (fun K hK => ?_)
      simp only [List.getElem_toArray, List.getElem_cons_zero, List.getElem_cons_succ]
      go_simp
      refine (cell_any 6 _).mono ?_
      rintro e w1 ⟨rfl, hb1⟩
      have H1 := Lib.hid (H0.out.next hb1)
      have HB1 := Lib.hid (HB.out.trans (hb1.mono (by obtain ⟨_, _, _, _, h⟩ := H0.out; have := h.low; have := h.box.lt; omega)))
      clear hb1 H0 HB
      have H0 := H1
      have HB := HB1
      clear H1 HB1
      refine hK _ _ (fun _ => trivial) ?_
      (try simp only [Act.put, List.setIfInBounds_toArray, List.set_cons_zero, List.set_cons_succ])
      refine wpAnyN_one (i := 5) (by kernel_rfl) rfl (fun K hK => ?_)
      simp only [List.getElem_toArray, List.getElem_cons_zero, List.getElem_cons_succ]
      go_simp
      refine (c10 _ H0.out).mono ?_
      rintro e w1 ⟨rfl, h1, hb1⟩
      have H1 := Lib.hid h1
      have HB1 := Lib.hid (HB.out.trans hb1)
      clear h1 hb1 H0 HB
      have H0 := H1
      have HB := HB1
      clear H1 HB1
      refine hK _ _ (fun _ => trivial) ?_
      (try simp only [Act.put, List.setIfInBounds_toArray, List.set_cons_zero, List.set_cons_succ])
      refine wpAnyN_one (i := 6) (by kernel_rfl) rfl (fun K hK => ?_)
      simp only [List.getElem_toArray, List.getElem_cons_zero, List.getElem_cons_succ]
      go_simp
      refine hK _ _ (fun _ => trivial) ?_
      (try simp only [Act.put, List.setIfInBounds_toArray, List.set_cons_zero, List.set_cons_succ])
      refine wpAnyN_one (i := 7) (by kernel_rfl) rfl (fun K hK => ?_)
      simp only [List.getElem_toArray, List.getElem_cons_zero, List.getElem_cons_succ]
      go_simp
      refine hK _ _ (fun _ => trivial) ?_
      (try simp only [Act.put, List.setIfInBounds_toArray, List.set_cons_zero, List.set_cons_succ])
      refine wpAnyN_one (i := 8) (by kernel_rfl) rfl (fun K hK => ?_)
      simp only [List.getElem_toArray, List.getElem_cons_zero, List.getElem_cons_succ]
      go_simp
      refine hK _ _ (fun _ => trivial) ?_
      (try simp only [Act.put, List.setIfInBounds_toArray, List.set_cons_zero, List.set_cons_succ])
      obtain ⟨A, c, A', c', ys, cs, hs⟩ := H0.out.open
      obtain ⟨t0, t1, t2⟩ := hs.cells
      have tl := hs.box.lt
      refine wpAnyN_one (i := 9) (by kernel_rfl) rfl (fun K hK => ?_)
      simp only [List.getElem_toArray, List.getElem_cons_zero, List.getElem_cons_succ]
      go_simp
      refine hK _ _ (fun _ => trivial) ?_
      (try simp only [Act.put, List.setIfInBounds_toArray, List.set_cons_zero, List.set_cons_succ])
      refine wpAnyN_one (i := 10) (by kernel_rfl) rfl (fun K hK => ?_)
      simp only [List.getElem_toArray, List.getElem_cons_zero, List.getElem_cons_succ]
      go_simp
      refine hK _ _ (fun _ => trivial) ?_
      (try simp only [Act.put, List.setIfInBounds_toArray, List.set_cons_zero, List.set_cons_succ])
      refine wpAnyN_one (i := 11) (by kernel_rfl) rfl (fun K hK => ?_)
      simp only [List.getElem_toArray, List.getElem_cons_zero, List.getElem_cons_succ]
      go_simp
      refine hK _ _ (fun _ => trivial) ?_
      (try simp only [Act.put, List.setIfInBounds_toArray, List.set_cons_zero, List.set_cons_succ])
      refine wpAnyN_one (i := 12) (by kernel_rfl) rfl (fun K hK => ?_)
      simp only [List.getElem_toArray, List.getElem_cons_zero, List.getElem_cons_succ]
      go_simp
      refine hK _ _ (fun _ => trivial) ?_
      (try simp only [Act.put, List.setIfInBounds_toArray, List.set_cons_zero, List.set_cons_succ])
      refine wpAnyN_one (i := 13) (by kernel_rfl) rfl (fun K hK => ?_)
      simp only [List.getElem_toArray, List.getElem_cons_zero, List.getElem_cons_succ]
      go_simp
      refine hK _ _ (fun _ => trivial) ?_
      (try simp only [Act.put, List.setIfInBounds_toArray, List.set_cons_zero, List.set_cons_succ])
      refine wpAnyN_one (i := 14) (by kernel_rfl) rfl (fun K hK => ?_)
      simp only [List.getElem_toArray, List.getElem_cons_zero, List.getElem_cons_succ]
      go_simp
      refine hK _ _ (fun _ => trivial) ?_
      (try simp only [Act.put, List.setIfInBounds_toArray, List.set_cons_zero, List.set_cons_succ])
      refine wpAnyN_one (i := 15) (by kernel_rfl) rfl (fun K hK => ?_)
      simp only [List.getElem_toArray, List.getElem_cons_zero, List.getElem_cons_succ]
      go_simp
      refine hK _ _ (fun _ => trivial) ?_
      (try simp only [Act.put, List.setIfInBounds_toArray, List.set_cons_zero, List.set_cons_succ])
      refine wpAnyN_one (i := 16) (by kernel_rfl) rfl (fun K hK => ?_)
      simp only [List.getElem_toArray, List.getElem_cons_zero, List.getElem_cons_succ]
      go_simp
      refine hK _ _ (fun _ => trivial) ?_
      (try simp only [Act.put, List.setIfInBounds_toArray, List.set_cons_zero, List.set_cons_succ])
      refine wpAnyN_one (i := 17) (by kernel_rfl) rfl (fun K hK => ?_)
      simp only [List.getElem_toArray, List.getElem_cons_zero, List.getElem_cons_succ]
      go_simp
      refine hK _ _ (fun _ => trivial) ?_
      (try simp only [Act.put, List.setIfInBounds_toArray, List.set_cons_zero, List.set_cons_succ])
      refine wpAnyN_one (i := 18) (by kernel_rfl) rfl (fun K hK => ?_)
      simp only [List.getElem_toArray, List.getElem_cons_zero, List.getElem_cons_succ]
      go_simp
      refine hK _ _ (fun _ => trivial) ?_
      (try simp only [Act.put, List.setIfInBounds_toArray, List.set_cons_zero, List.set_cons_succ])
      refine wpAnyN_one (i := 19) (by kernel_rfl) rfl (fun K hK => ?_)
      simp only [List.getElem_toArray, List.getElem_cons_zero, List.getElem_cons_succ]
      go_simp
      refine hK _ _ (fun _ => trivial) ?_
      (try simp only [Act.put, List.setIfInBounds_toArray, List.set_cons_zero, List.set_cons_succ])
      clear t0 t1 t2 tl hs
      obtain ⟨A, c, A', c', ys, cs, hs⟩ := H0.out.open
      obtain ⟨t0, t1, t2⟩ := hs.cells
      have tl := hs.box.lt
      refine wpAnyN_two (i := 20) (j := 21) (by kernel_rfl) rfl rfl (fun K1 hK1 => ?_) (fun K1 hK1 => ?_)
      · simp only [List.getElem_toArray, List.getElem_cons_zero, List.getElem_cons_succ]
        go_simp
        refine hK1 _ _ (fun _ => trivial) ?_
        (try simp only [Act.put, List.setIfInBounds_toArray, List.set_cons_zero, List.set_cons_succ])
        refine wpAnyN_one (i := 21) (by kernel_rfl) rfl (fun K2 hK2 => ?_)
        simp only [List.getElem_toArray, List.getElem_cons_zero, List.getElem_cons_succ]
        go_simp
        refine (cell_any 5 _).mono ?_
        rintro e w9 ⟨rfl, hb9⟩
        have hs9 := hs.next hb9
        obtain ⟨u0, u1, u2⟩ := hs9.cells
        have ul := hs9.box.lt
        have HB9 := Lib.hid (HB.out.trans (hb9.mono (by obtain ⟨_, _, _, _, h⟩ := H0.out; have := h.low; have := h.box.lt; omega)))
        clear hb9 HB
        have HB := HB9
        clear HB9
        refine hK2 _ _ (fun _ => trivial) ?_
        (try simp only [Act.put, List.setIfInBounds_toArray, List.set_cons_zero, List.set_cons_succ])
        refine wpAnyN_one (i := 22) (by kernel_rfl) rfl (fun K3 hK3 => ?_)
        simp only [List.getElem_toArray, List.getElem_cons_zero, List.getElem_cons_succ]
        go_simp
        refine (is_own 1 1 5 hs9 z4 v11).mono ?_
        rintro e w10 ⟨rfl, hb10⟩
        have HA := Lib.hid (show OwnP w10 q q s4 from ⟨_, _, _, _, hs9.next hb10⟩)
        have HB9 := Lib.hid (HB.out.trans (hb10.mono (by have := hs9.low; have := hs9.box.lt; omega)))
        clear H0 HB hs9 hs hb10
        have H0 := HA
        have HB := HB9
        clear HA HB9
        refine hK3 _ _ (fun _ => trivial) ?_
        (try simp only [Act.put, List.setIfInBounds_toArray, List.set_cons_zero, List.set_cons_succ])
        refine wpAnyN_one (i := 23) (by kernel_rfl) rfl (fun K hK => ?_)
        simp only [List.getElem_toArray, List.getElem_cons_zero, List.getElem_cons_succ]
        go_simp
        refine hK _ _ (fun _ => trivial) ?_
        (try simp only [Act.put, List.setIfInBounds_toArray, List.set_cons_zero, List.set_cons_succ])
        refine wpAnyN_one (i := 24) (by kernel_rfl) rfl (fun K hK => ?_)
        simp only [List.getElem_toArray, List.getElem_cons_zero, List.getElem_cons_succ]
        go_simp
        refine hK _ _ (fun _ => trivial) ?_
        (try simp only [Act.put, List.setIfInBounds_toArray, List.set_cons_zero, List.set_cons_succ])
        refine wpAnyN_one (i := 25) (by kernel_rfl) rfl (fun K hK => ?_)
        simp only [List.getElem_toArray, List.getElem_cons_zero, List.getElem_cons_succ]
        go_simp
        refine hK _ _ (fun _ => trivial) ?_
        (try simp only [Act.put, List.setIfInBounds_toArray, List.set_cons_zero, List.set_cons_succ])
        obtain ⟨A, c, A', c', ys, cs, hs⟩ := H0.out.open
        obtain ⟨t0, t1, t2⟩ := hs.cells
        have tl := hs.box.lt
        refine wpAnyN_two (i := 26) (j := 27) (by kernel_rfl) rfl rfl (fun K1 hK1 => ?_) (fun K1 hK1 => ?_)
        · simp only [List.getElem_toArray, List.getElem_cons_zero, List.getElem_cons_succ]
          go_simp
          refine hK1 _ _ (fun _ => trivial) ?_
          (try simp only [Act.put, List.setIfInBounds_toArray, List.set_cons_zero, List.set_cons_succ])
          refine wpAnyN_one (i := 27) (by kernel_rfl) rfl (fun K2 hK2 => ?_)
          simp only [List.getElem_toArray, List.getElem_cons_zero, List.getElem_cons_succ]
          go_simp
          refine (cell_any 6 _).mono ?_
          rintro e w9 ⟨rfl, hb9⟩
          have hs9 := hs.next hb9
          obtain ⟨u0, u1, u2⟩ := hs9.cells
          have ul := hs9.box.lt
          have HB9 := Lib.hid (HB.out.trans (hb9.mono (by obtain ⟨_, _, _, _, h⟩ := H0.out; have := h.low; have := h.box.lt; omega)))
          clear hb9 HB
          have HB := HB9
          clear HB9
          refine hK2 _ _ (fun _ => trivial) ?_
          (try simp only [Act.put, List.setIfInBounds_toArray, List.set_cons_zero, List.set_cons_succ])
          refine wpAnyN_one (i := 28) (by kernel_rfl) rfl (fun K3 hK3 => ?_)
          simp only [List.getElem_toArray, List.getElem_cons_zero, List.getElem_cons_succ]
          go_simp
          refine (is_own 2 1 6 hs9 z4 v12).mono ?_
          rintro e w10 ⟨rfl, hb10⟩
          have HA := Lib.hid (show OwnP w10 q q s4 from ⟨_, _, _, _, hs9.next hb10⟩)
          have HB9 := Lib.hid (HB.out.trans (hb10.mono (by have := hs9.low; have := hs9.box.lt; omega)))
          clear H0 HB hs9 hs hb10
          have H0 := HA
          have HB := HB9
          clear HA HB9
          refine hK3 _ _ (fun _ => trivial) ?_
          (try simp only [Act.put, List.setIfInBounds_toArray, List.set_cons_zero, List.set_cons_succ])
          refine wpAnyN_one (i := 29) (by kernel_rfl) rfl (fun K hK => ?_)
          simp only [List.getElem_toArray, List.getElem_cons_zero, List.getElem_cons_succ]
          go_simp
          refine hK _ _ (fun _ => trivial) ?_
          (try simp only [Act.put, List.setIfInBounds_toArray, List.set_cons_zero, List.set_cons_succ])
          refine wpAnyN_one (i := 30) (by kernel_rfl) rfl (fun K hK => ?_)
          simp only [List.getElem_toArray, List.getElem_cons_zero, List.getElem_cons_succ]
          go_simp
          refine hK _ _ (fun _ => trivial) ?_
          (try simp only [Act.put, List.setIfInBounds_toArray, List.set_cons_zero, List.set_cons_succ])
          refine wpAnyN_done (by kernel_rfl) ?_ _
          go_wp2_with fail
          go_meet
          exact ⟨rfl, Lib.hid ⟨H0.out, HB.out⟩⟩
        · simp only [List.getElem_toArray, List.getElem_cons_zero, List.getElem_cons_succ]
          go_simp
          refine (cell_any 6 _).mono ?_
          rintro e w9 ⟨rfl, hb9⟩
          have hs9 := hs.next hb9
          obtain ⟨u0, u1, u2⟩ := hs9.cells
          have ul := hs9.box.lt
          have HB9 := Lib.hid (HB.out.trans (hb9.mono (by obtain ⟨_, _, _, _, h⟩ := H0.out; have := h.low; have := h.box.lt; omega)))
          clear hb9 HB
          have HB := HB9
          clear HB9
          refine hK1 _ _ (fun _ => trivial) ?_
          (try simp only [Act.put, List.setIfInBounds_toArray, List.set_cons_zero, List.set_cons_succ])
          refine wpAnyN_one (i := 26) (by kernel_rfl) rfl (fun K2 hK2 => ?_)
          simp only [List.getElem_toArray, List.getElem_cons_zero, List.getElem_cons_succ]
          go_simp
          refine hK2 _ _ (fun _ => trivial) ?_
          (try simp only [Act.put, List.setIfInBounds_toArray, List.set_cons_zero, List.set_cons_succ])
          refine wpAnyN_one (i := 28) (by kernel_rfl) rfl (fun K3 hK3 => ?_)
          simp only [List.getElem_toArray, List.getElem_cons_zero, List.getElem_cons_succ]
          go_simp
          refine (is_own 2 1 6 hs9 z4 v12).mono ?_
          rintro e w10 ⟨rfl, hb10⟩
          have HA := Lib.hid (show OwnP w10 q q s4 from ⟨_, _, _, _, hs9.next hb10⟩)
          have HB9 := Lib.hid (HB.out.trans (hb10.mono (by have := hs9.low; have := hs9.box.lt; omega)))
          clear H0 HB hs9 hs hb10
          have H0 := HA
          have HB := HB9
          clear HA HB9
          refine hK3 _ _ (fun _ => trivial) ?_
          (try simp only [Act.put, List.setIfInBounds_toArray, List.set_cons_zero, List.set_cons_succ])
          refine wpAnyN_one (i := 29) (by kernel_rfl) rfl (fun K hK => ?_)
          simp only [List.getElem_toArray, List.getElem_cons_zero, List.getElem_cons_succ]
          go_simp
          refine hK _ _ (fun _ => trivial) ?_
          (try simp only [Act.put, List.setIfInBounds_toArray, List.set_cons_zero, List.set_cons_succ])
          refine wpAnyN_one (i := 30) (by kernel_rfl) rfl (fun K hK => ?_)
          simp only [List.getElem_toArray, List.getElem_cons_zero, List.getElem_cons_succ]
          go_simp
          refine hK _ _ (fun _ => trivial) ?_
          (try simp only [Act.put, List.setIfInBounds_toArray, List.set_cons_zero, List.set_cons_succ])
          refine wpAnyN_done (by kernel_rfl) ?_ _
          go_wp2_with fail
          go_meet
          exact ⟨rfl, Lib.hid ⟨H0.out, HB.out⟩⟩
      · simp only [List.getElem_toArray, List.getElem_cons_zero, List.getElem_cons_succ]
        go_simp
        refine (cell_any 5 _).mono ?_
        rintro e w9 ⟨rfl, hb9⟩
        have hs9 := hs.next hb9
        obtain ⟨u0, u1, u2⟩ := hs9.cells
        have ul := hs9.box.lt
        have HB9 := Lib.hid (HB.out.trans (hb9.mono (by obtain ⟨_, _, _, _, h⟩ := H0.out; have := h.low; have := h.box.lt; omega)))
        clear hb9 HB
        have HB := HB9
        clear HB9
        refine hK1 _ _ (fun _ => trivial) ?_
        (try simp only [Act.put, List.setIfInBounds_toArray, List.set_cons_zero, List.set_cons_succ])
        refine wpAnyN_one (i := 20) (by kernel_rfl) rfl (fun K2 hK2 => ?_)
        simp only [List.getElem_toArray, List.getElem_cons_zero, List.getElem_cons_succ]
        go_simp
        refine hK2 _ _ (fun _ => trivial) ?_
        (try simp only [Act.put, List.setIfInBounds_toArray, List.set_cons_zero, List.set_cons_succ])
        refine wpAnyN_one (i := 22) (by kernel_rfl) rfl (fun K3 hK3 => ?_)
        simp only [List.getElem_toArray, List.getElem_cons_zero, List.getElem_cons_succ]
        go_simp
        refine (is_own 1 1 5 hs9 z4 v11).mono ?_
        rintro e w10 ⟨rfl, hb10⟩
        have HA := Lib.hid (show OwnP w10 q q s4 from ⟨_, _, _, _, hs9.next hb10⟩)
        have HB9 := Lib.hid (HB.out.trans (hb10.mono (by have := hs9.low; have := hs9.box.lt; omega)))
        clear H0 HB hs9 hs hb10
        have H0 := HA
        have HB := HB9
        clear HA HB9
        refine hK3 _ _ (fun _ => trivial) ?_
        (try simp only [Act.put, List.setIfInBounds_toArray, List.set_cons_zero, List.set_cons_succ])
        refine wpAnyN_one (i := 23) (by kernel_rfl) rfl (fun K hK => ?_)
        simp only [List.getElem_toArray, List.getElem_cons_zero, List.getElem_cons_succ]
        go_simp
        refine hK _ _ (fun _ => trivial) ?_
        (try simp only [Act.put, List.setIfInBounds_toArray, List.set_cons_zero, List.set_cons_succ])
        refine wpAnyN_one (i := 24) (by kernel_rfl) rfl (fun K hK => ?_)
        simp only [List.getElem_toArray, List.getElem_cons_zero, List.getElem_cons_succ]
        go_simp
        refine hK _ _ (fun _ => trivial) ?_
        (try simp only [Act.put, List.setIfInBounds_toArray, List.set_cons_zero, List.set_cons_succ])
        refine wpAnyN_one (i := 25) (by kernel_rfl) rfl (fun K hK => ?_)
        simp only [List.getElem_toArray, List.getElem_cons_zero, List.getElem_cons_succ]
        go_simp
        refine hK _ _ (fun _ => trivial) ?_
        (try simp only [Act.put, List.setIfInBounds_toArray, List.set_cons_zero, List.set_cons_succ])
        obtain ⟨A, c, A', c', ys, cs, hs⟩ := H0.out.open
        obtain ⟨t0, t1, t2⟩ := hs.cells
        have tl := hs.box.lt
        refine wpAnyN_two (i := 26) (j := 27) (by kernel_rfl) rfl rfl (fun K1 hK1 => ?_) (fun K1 hK1 => ?_)
        · simp only [List.getElem_toArray, List.getElem_cons_zero, List.getElem_cons_succ]
          go_simp
          refine hK1 _ _ (fun _ => trivial) ?_
          (try simp only [Act.put, List.setIfInBounds_toArray, List.set_cons_zero, List.set_cons_succ])
          refine wpAnyN_one (i := 27) (by kernel_rfl) rfl (fun K2 hK2 => ?_)
          simp only [List.getElem_toArray, List.getElem_cons_zero, List.getElem_cons_succ]
          go_simp
          refine (cell_any 6 _).mono ?_
          rintro e w9 ⟨rfl, hb9⟩
          have hs9 := hs.next hb9
          obtain ⟨u0, u1, u2⟩ := hs9.cells
          have ul := hs9.box.lt
          have HB9 := Lib.hid (HB.out.trans (hb9.mono (by obtain ⟨_, _, _, _, h⟩ := H0.out; have := h.low; have := h.box.lt; omega)))
          clear hb9 HB
          have HB := HB9
          clear HB9
          refine hK2 _ _ (fun _ => trivial) ?_
          (try simp only [Act.put, List.setIfInBounds_toArray, List.set_cons_zero, List.set_cons_succ])
          refine wpAnyN_one (i := 28) (by kernel_rfl) rfl (fun K3 hK3 => ?_)
          simp only [List.getElem_toArray, List.getElem_cons_zero, List.getElem_cons_succ]
          go_simp
          refine (is_own 2 1 6 hs9 z4 v12).mono ?_
          rintro e w10 ⟨rfl, hb10⟩
          have HA := Lib.hid (show OwnP w10 q q s4 from ⟨_, _, _, _, hs9.next hb10⟩)
          have HB9 := Lib.hid (HB.out.trans (hb10.mono (by have := hs9.low; have := hs9.box.lt; omega)))
          clear H0 HB hs9 hs hb10
          have H0 := HA
          have HB := HB9
          clear HA HB9
          refine hK3 _ _ (fun _ => trivial) ?_
          (try simp only [Act.put, List.setIfInBounds_toArray, List.set_cons_zero, List.set_cons_succ])
          refine wpAnyN_one (i := 29) (by kernel_rfl) rfl (fun K hK => ?_)
          simp only [List.getElem_toArray, List.getElem_cons_zero, List.getElem_cons_succ]
          go_simp
          refine hK _ _ (fun _ => trivial) ?_
          (try simp only [Act.put, List.setIfInBounds_toArray, List.set_cons_zero, List.set_cons_succ])
          refine wpAnyN_one (i := 30) (by kernel_rfl) rfl (fun K hK => ?_)
          simp only [List.getElem_toArray, List.getElem_cons_zero, List.getElem_cons_succ]
          go_simp
          refine hK _ _ (fun _ => trivial) ?_
          (try simp only [Act.put, List.setIfInBounds_toArray, List.set_cons_zero, List.set_cons_succ])
          refine wpAnyN_done (by kernel_rfl) ?_ _
          go_wp2_with fail
          go_meet
          exact ⟨rfl, Lib.hid ⟨H0.out, HB.out⟩⟩
        · simp only [List.getElem_toArray, List.getElem_cons_zero, List.getElem_cons_succ]
          go_simp
          refine (cell_any 6 _).mono ?_
          rintro e w9 ⟨rfl, hb9⟩
          have hs9 := hs.next hb9
          obtain ⟨u0, u1, u2⟩ := hs9.cells
          have ul := hs9.box.lt
          have HB9 := Lib.hid (HB.out.trans (hb9.mono (by obtain ⟨_, _, _, _, h⟩ := H0.out; have := h.low; have := h.box.lt; omega)))
          clear hb9 HB
          have HB := HB9
          clear HB9
          refine hK1 _ _ (fun _ => trivial) ?_
          (try simp only [Act.put, List.setIfInBounds_toArray, List.set_cons_zero, List.set_cons_succ])
          refine wpAnyN_one (i := 26) (by kernel_rfl) rfl (fun K2 hK2 => ?_)
          simp only [List.getElem_toArray, List.getElem_cons_zero, List.getElem_cons_succ]
          go_simp
          refine hK2 _ _ (fun _ => trivial) ?_
          (try simp only [Act.put, List.setIfInBounds_toArray, List.set_cons_zero, List.set_cons_succ])
          refine wpAnyN_one (i := 28) (by kernel_rfl) rfl (fun K3 hK3 => ?_)
          simp only [List.getElem_toArray, List.getElem_cons_zero, List.getElem_cons_succ]
          go_simp
          refine (is_own 2 1 6 hs9 z4 v12).mono ?_
          rintro e w10 ⟨rfl, hb10⟩
          have HA := Lib.hid (show OwnP w10 q q s4 from ⟨_, _, _, _, hs9.next hb10⟩)
          have HB9 := Lib.hid (HB.out.trans (hb10.mono (by have := hs9.low; have := hs9.box.lt; omega)))
          clear H0 HB hs9 hs hb10
          have H0 := HA
          have HB := HB9
          clear HA HB9
          refine hK3 _ _ (fun _ => trivial) ?_
          (try simp only [Act.put, List.setIfInBounds_toArray, List.set_cons_zero, List.set_cons_succ])
          refine wpAnyN_one (i := 29) (by kernel_rfl) rfl (fun K hK => ?_)
          simp only [List.getElem_toArray, List.getElem_cons_zero, List.getElem_cons_succ]
          go_simp
          refine hK _ _ (fun _ => trivial) ?_
          (try simp only [Act.put, List.setIfInBounds_toArray, List.set_cons_zero, List.set_cons_succ])
          refine wpAnyN_one (i := 30) (by kernel_rfl) rfl (fun K hK => ?_)
          simp only [List.getElem_toArray, List.getElem_cons_zero, List.getElem_cons_succ]
          go_simp
          refine hK _ _ (fun _ => trivial) ?_
          (try simp only [Act.put, List.setIfInBounds_toArray, List.set_cons_zero, List.set_cons_succ])
          refine wpAnyN_done (by kernel_rfl) ?_ _
          go_wp2_with fail
          go_meet
          exact ⟨rfl, Lib.hid ⟨H0.out, HB.out⟩⟩
    case rest =>
      obtain ⟨rfl, hc⟩ := hcut
      clear H0 HB
      have H0 := Lib.hid hc.out.1
      have HB := Lib.hid hc.out.2
      clear hc
      go_wp2_with fail
      refine (c13 _ H0.out).mono ?_
      rintro e w3 ⟨B1, b1, B2, b2, ⟨rfl, h1, hb1⟩, -, -⟩
      have H1 := Lib.hid h1
      have HB1 := Lib.hid (HB.out.trans hb1)
      clear h1 hb1 H0 HB
      dsimp only [chV, ch4]
      go_upto_region 13 with fail
      obtain ⟨X, HX⟩ : ∃ X, Hid (X = w3.alloc (.cells #[.int .i64 4, .slice B1 0 b1, .int .i64 1, .int .i64 0, .int .i64 0, .int .i64 0, .int .i64 0, .int .i64 0, .int .i64 1, .slice B2 0 b2, .int .i64 0] 29)) := ⟨_, rfl⟩
      obtain ⟨r, hr⟩ : ∃ r, Hid (r = w3.heap.size) := ⟨_, rfl⟩
      have hbX : Below w3.heap.size w3 X := by rw [HX.out]; exact bAlloc _ _
      have hkX : Blk X r 29 #[.int .i64 4, .slice B1 0 b1, .int .i64 1, .int .i64 0, .int .i64 0, .int .i64 0, .int .i64 0, .int .i64 0, .int .i64 1, .slice B2 0 b2, .int .i64 0] := by rw [HX.out, hr.out]; exact Blk.new _ _ _
      have H0 := Lib.hid (H1.out.next hbX)
      have HB := Lib.hid (HB1.out.trans (hbX.mono (by obtain ⟨_, _, _, _, h⟩ := H1.out; have := h.low; have := h.box.lt; omega)))
      rw [← HX.out, ← hr.out]
      clear HX hbX H1 HB1
      obtain ⟨X0, HX0⟩ : ∃ X', Hid (X' = X.drew) := ⟨_, rfl⟩
      have hd0 : Below X.heap.size X X0 := by rw [HX0.out]; exact bDrew _
      have H1 := Lib.hid (H0.out.next hd0)
      have HB1 := Lib.hid (HB.out.trans (hd0.mono (by obtain ⟨_, _, _, _, h⟩ := H0.out; have := h.low; have := h.box.lt; omega)))
      have hk1 := hkX.next hd0
      have k0 := hk1.cell 0
      have k2 := hk1.cell 2
      have k8 := hk1.cell 8
      have kl := hk1.lt
      simp at k0 k2 k8
      obtain ⟨A, c, A', c', ys, cs, hs⟩ := H1.out.open
      obtain ⟨t0, t1, t2⟩ := hs.cells
      have tl := hs.box.lt
      have te : (s2.e : Int) = 1 := rfl
      refine wp_region_N (fun w' => Below X0.heap.size X0 w') (fun _ => true) (by kernel_rfl) ?_
      rw [← HX0.out]
      clear HX0 hd0 H0 HB hkX hk1
      have H0 := H1
      have HB := HB1
      clear H1 HB1
      have hS0 : (fun w' => Below X0.heap.size X0 w') X0 := Below.refl _ _
      refine wpAnyN_take (i := 0) (v := ?v1) rfl (by kernel_rfl) (by kernel_rfl) (by kernel_rfl) (by kernel_rfl) (fun _ _ _ h => h) (Or.inl ⟨by rfl, ?hy1⟩) (by assumption) ?_
      case hy1 => intro w hSw; have y0 := (hSw.cell (p := ⟨r, _, none⟩) kl).trans k0; have y2 := (hSw.cell (p := ⟨r, _, none⟩) kl).trans k2; have y8 := (hSw.cell (p := ⟨r, _, none⟩) kl).trans k8; have x0 := (hSw.cell (p := ⟨q, _, none⟩) tl).trans t0; have x1 := (hSw.cell (p := ⟨q, _, none⟩) tl).trans t1; have x2 := (hSw.cell (p := ⟨q, _, none⟩) tl).trans t2; go_simp; try with_reducible rfl
      simp only [Act.put, List.getElem_toArray, List.getElem_cons_zero, List.setIfInBounds_toArray, List.set_cons_zero, List.set_cons_succ]
      refine wpAnyN_take (i := 1) (v := ?v2) rfl (by kernel_rfl) (by kernel_rfl) (by kernel_rfl) (by kernel_rfl) (fun _ _ _ h => h) (Or.inl ⟨by rfl, ?hy2⟩) (by assumption) ?_
      case hy2 => intro w hSw; have y0 := (hSw.cell (p := ⟨r, _, none⟩) kl).trans k0; have y2 := (hSw.cell (p := ⟨r, _, none⟩) kl).trans k2; have y8 := (hSw.cell (p := ⟨r, _, none⟩) kl).trans k8; have x0 := (hSw.cell (p := ⟨q, _, none⟩) tl).trans t0; have x1 := (hSw.cell (p := ⟨q, _, none⟩) tl).trans t1; have x2 := (hSw.cell (p := ⟨q, _, none⟩) tl).trans t2; go_simp; try with_reducible rfl
      simp only [Act.put, List.getElem_toArray, List.getElem_cons_zero, List.getElem_cons_succ, List.setIfInBounds_toArray, List.set_cons_zero, List.set_cons_succ]
      refine wpAnyN_take (i := 2) (v := ?v3) rfl (by kernel_rfl) (by kernel_rfl) (by kernel_rfl) (by kernel_rfl) (fun _ _ _ h => h) (Or.inl ⟨by rfl, ?hy3⟩) (by assumption) ?_
      case hy3 => intro w hSw; have y0 := (hSw.cell (p := ⟨r, _, none⟩) kl).trans k0; have y2 := (hSw.cell (p := ⟨r, _, none⟩) kl).trans k2; have y8 := (hSw.cell (p := ⟨r, _, none⟩) kl).trans k8; have x0 := (hSw.cell (p := ⟨q, _, none⟩) tl).trans t0; have x1 := (hSw.cell (p := ⟨q, _, none⟩) tl).trans t1; have x2 := (hSw.cell (p := ⟨q, _, none⟩) tl).trans t2; go_simp; try with_reducible rfl
      simp only [Act.put, List.getElem_toArray, List.getElem_cons_zero, List.getElem_cons_succ, List.setIfInBounds_toArray, List.set_cons_zero, List.set_cons_succ]
      refine wpAnyN_take (i := 3) (v := ?v4) rfl (by kernel_rfl) (by kernel_rfl) (by kernel_rfl) (by kernel_rfl) (fun _ _ _ h => h) (Or.inl ⟨by rfl, ?hy4⟩) (by assumption) ?_
      case hy4 => intro w hSw; have y0 := (hSw.cell (p := ⟨r, _, none⟩) kl).trans k0; have y2 := (hSw.cell (p := ⟨r, _, none⟩) kl).trans k2; have y8 := (hSw.cell (p := ⟨r, _, none⟩) kl).trans k8; have x0 := (hSw.cell (p := ⟨q, _, none⟩) tl).trans t0; have x1 := (hSw.cell (p := ⟨q, _, none⟩) tl).trans t1; have x2 := (hSw.cell (p := ⟨q, _, none⟩) tl).trans t2; go_simp; try with_reducible rfl
      simp only [Act.put, List.getElem_toArray, List.getElem_cons_zero, List.getElem_cons_succ, List.setIfInBounds_toArray, List.set_cons_zero, List.set_cons_succ]
      refine wpAnyN_take (i := 4) (v := ?v5) rfl (by kernel_rfl) (by kernel_rfl) (by kernel_rfl) (by kernel_rfl) (fun _ _ _ h => h) (Or.inl ⟨by rfl, ?hy5⟩) (by assumption) ?_
      case hy5 => intro w hSw; have y0 := (hSw.cell (p := ⟨r, _, none⟩) kl).trans k0; have y2 := (hSw.cell (p := ⟨r, _, none⟩) kl).trans k2; have y8 := (hSw.cell (p := ⟨r, _, none⟩) kl).trans k8; have x0 := (hSw.cell (p := ⟨q, _, none⟩) tl).trans t0; have x1 := (hSw.cell (p := ⟨q, _, none⟩) tl).trans t1; have x2 := (hSw.cell (p := ⟨q, _, none⟩) tl).trans t2; go_simp; try with_reducible rfl
      simp only [Act.put, List.getElem_toArray, List.getElem_cons_zero, List.getElem_cons_succ, List.setIfInBounds_toArray, List.set_cons_zero, List.set_cons_succ]
      refine wpAnyN_take (i := 5) (v := ?v6) rfl (by kernel_rfl) (by kernel_rfl) (by kernel_rfl) (by kernel_rfl) (fun _ _ _ h => h) (Or.inl ⟨by rfl, ?hy6⟩) (by assumption) ?_
      case hy6 => intro w hSw; have y0 := (hSw.cell (p := ⟨r, _, none⟩) kl).trans k0; have y2 := (hSw.cell (p := ⟨r, _, none⟩) kl).trans k2; have y8 := (hSw.cell (p := ⟨r, _, none⟩) kl).trans k8; have x0 := (hSw.cell (p := ⟨q, _, none⟩) tl).trans t0; have x1 := (hSw.cell (p := ⟨q, _, none⟩) tl).trans t1; have x2 := (hSw.cell (p := ⟨q, _, none⟩) tl).trans t2; go_simp; try with_reducible rfl
      simp only [Act.put, List.getElem_toArray, List.getElem_cons_zero, List.getElem_cons_succ, List.setIfInBounds_toArray, List.set_cons_zero, List.set_cons_succ]
      refine wpAnyN_take (i := 6) (v := ?v7) rfl (by kernel_rfl) (by kernel_rfl) (by kernel_rfl) (by kernel_rfl) (fun _ _ _ h => h) (Or.inl ⟨by rfl, ?hy7⟩) (by assumption) ?_
      case hy7 => intro w hSw; have y0 := (hSw.cell (p := ⟨r, _, none⟩) kl).trans k0; have y2 := (hSw.cell (p := ⟨r, _, none⟩) kl).trans k2; have y8 := (hSw.cell (p := ⟨r, _, none⟩) kl).trans k8; have x0 := (hSw.cell (p := ⟨q, _, none⟩) tl).trans t0; have x1 := (hSw.cell (p := ⟨q, _, none⟩) tl).trans t1; have x2 := (hSw.cell (p := ⟨q, _, none⟩) tl).trans t2; go_simp; try with_reducible rfl
      simp only [Act.put, List.getElem_toArray, List.getElem_cons_zero, List.getElem_cons_succ, List.setIfInBounds_toArray, List.set_cons_zero, List.set_cons_succ]
      refine wpAnyN_take (i := 7) (v := ?v8) rfl (by kernel_rfl) (by kernel_rfl) (by kernel_rfl) (by kernel_rfl) (fun _ _ _ h => h) (Or.inl ⟨by rfl, ?hy8⟩) (by assumption) ?_
      case hy8 => intro w hSw; have y0 := (hSw.cell (p := ⟨r, _, none⟩) kl).trans k0; have y2 := (hSw.cell (p := ⟨r, _, none⟩) kl).trans k2; have y8 := (hSw.cell (p := ⟨r, _, none⟩) kl).trans k8; have x0 := (hSw.cell (p := ⟨q, _, none⟩) tl).trans t0; have x1 := (hSw.cell (p := ⟨q, _, none⟩) tl).trans t1; have x2 := (hSw.cell (p := ⟨q, _, none⟩) tl).trans t2; go_simp; try with_reducible rfl
      simp only [Act.put, List.getElem_toArray, List.getElem_cons_zero, List.getElem_cons_succ, List.setIfInBounds_toArray, List.set_cons_zero, List.set_cons_succ]
      refine wpAnyN_take (i := 8) (v := ?v9) rfl (by kernel_rfl) (by kernel_rfl) (by kernel_rfl) (by kernel_rfl) (fun _ _ _ h => h) (Or.inl ⟨by rfl, ?hy9⟩) (by assumption) ?_
      case hy9 => intro w hSw; have y0 := (hSw.cell (p := ⟨r, _, none⟩) kl).trans k0; have y2 := (hSw.cell (p := ⟨r, _, none⟩) kl).trans k2; have y8 := (hSw.cell (p := ⟨r, _, none⟩) kl).trans k8; have x0 := (hSw.cell (p := ⟨q, _, none⟩) tl).trans t0; have x1 := (hSw.cell (p := ⟨q, _, none⟩) tl).trans t1; have x2 := (hSw.cell (p := ⟨q, _, none⟩) tl).trans t2; go_simp; try with_reducible rfl
      simp only [Act.put, List.getElem_toArray, List.getElem_cons_zero, List.getElem_cons_succ, List.setIfInBounds_toArray, List.set_cons_zero, List.set_cons_succ]
      refine wpAnyN_take (i := 9) (v := ?v10) rfl (by kernel_rfl) (by kernel_rfl) (by kernel_rfl) (by kernel_rfl) (fun _ _ _ h => h) (Or.inl ⟨by rfl, ?hy10⟩) (by assumption) ?_
      case hy10 => intro w hSw; have y0 := (hSw.cell (p := ⟨r, _, none⟩) kl).trans k0; have y2 := (hSw.cell (p := ⟨r, _, none⟩) kl).trans k2; have y8 := (hSw.cell (p := ⟨r, _, none⟩) kl).trans k8; have x0 := (hSw.cell (p := ⟨q, _, none⟩) tl).trans t0; have x1 := (hSw.cell (p := ⟨q, _, none⟩) tl).trans t1; have x2 := (hSw.cell (p := ⟨q, _, none⟩) tl).trans t2; go_simp; try with_reducible rfl
      simp only [Act.put, List.getElem_toArray, List.getElem_cons_zero, List.getElem_cons_succ, List.setIfInBounds_toArray, List.set_cons_zero, List.set_cons_succ]
      refine wpAnyN_take (i := 10) (v := ?v11) rfl (by kernel_rfl) (by kernel_rfl) (by kernel_rfl) (by kernel_rfl) (fun _ _ _ h => h) (Or.inl ⟨by rfl, ?hy11⟩) (by assumption) ?_
      case hy11 => intro w hSw; have y0 := (hSw.cell (p := ⟨r, _, none⟩) kl).trans k0; have y2 := (hSw.cell (p := ⟨r, _, none⟩) kl).trans k2; have y8 := (hSw.cell (p := ⟨r, _, none⟩) kl).trans k8; have x0 := (hSw.cell (p := ⟨q, _, none⟩) tl).trans t0; have x1 := (hSw.cell (p := ⟨q, _, none⟩) tl).trans t1; have x2 := (hSw.cell (p := ⟨q, _, none⟩) tl).trans t2; go_simp; try with_reducible rfl
      simp only [Act.put, List.getElem_toArray, List.getElem_cons_zero, List.getElem_cons_succ, List.setIfInBounds_toArray, List.set_cons_zero, List.set_cons_succ]
      refine wpAnyN_take (i := 11) (v := ?v12) rfl (by kernel_rfl) (by kernel_rfl) (by kernel_rfl) (by kernel_rfl) (fun _ _ _ h => h) (Or.inl ⟨by rfl, ?hy12⟩) (by assumption) ?_
      case hy12 => intro w hSw; have y0 := (hSw.cell (p := ⟨r, _, none⟩) kl).trans k0; have y2 := (hSw.cell (p := ⟨r, _, none⟩) kl).trans k2; have y8 := (hSw.cell (p := ⟨r, _, none⟩) kl).trans k8; have x0 := (hSw.cell (p := ⟨q, _, none⟩) tl).trans t0; have x1 := (hSw.cell (p := ⟨q, _, none⟩) tl).trans t1; have x2 := (hSw.cell (p := ⟨q, _, none⟩) tl).trans t2; go_simp; try with_reducible rfl
      simp only [Act.put, List.getElem_toArray, List.getElem_cons_zero, List.getElem_cons_succ, List.setIfInBounds_toArray, List.set_cons_zero, List.set_cons_succ]
      refine wpAnyN_take (i := 12) (v := ?v13) rfl (by kernel_rfl) (by kernel_rfl) (by kernel_rfl) (by kernel_rfl) (fun _ _ _ h => h) (Or.inl ⟨by rfl, ?hy13⟩) (by assumption) ?_
      case hy13 => intro w hSw; have y0 := (hSw.cell (p := ⟨r, _, none⟩) kl).trans k0; have y2 := (hSw.cell (p := ⟨r, _, none⟩) kl).trans k2; have y8 := (hSw.cell (p := ⟨r, _, none⟩) kl).trans k8; have x0 := (hSw.cell (p := ⟨q, _, none⟩) tl).trans t0; have x1 := (hSw.cell (p := ⟨q, _, none⟩) tl).trans t1; have x2 := (hSw.cell (p := ⟨q, _, none⟩) tl).trans t2; go_simp; try with_reducible rfl
      simp only [Act.put, List.getElem_toArray, List.getElem_cons_zero, List.getElem_cons_succ, List.setIfInBounds_toArray, List.set_cons_zero, List.set_cons_succ]
      refine wpAnyN_take (i := 13) (v := ?v14) rfl (by kernel_rfl) (by kernel_rfl) (by kernel_rfl) (by kernel_rfl) (fun _ _ _ h => h) (Or.inl ⟨by rfl, ?hy14⟩) (by assumption) ?_
      case hy14 => intro w hSw; have y0 := (hSw.cell (p := ⟨r, _, none⟩) kl).trans k0; have y2 := (hSw.cell (p := ⟨r, _, none⟩) kl).trans k2; have y8 := (hSw.cell (p := ⟨r, _, none⟩) kl).trans k8; have x0 := (hSw.cell (p := ⟨q, _, none⟩) tl).trans t0; have x1 := (hSw.cell (p := ⟨q, _, none⟩) tl).trans t1; have x2 := (hSw.cell (p := ⟨q, _, none⟩) tl).trans t2; go_simp; try with_reducible rfl
      simp only [Act.put, List.getElem_toArray, List.getElem_cons_zero, List.getElem_cons_succ, List.setIfInBounds_toArray, List.set_cons_zero, List.set_cons_succ]
      refine wpAnyN_take (i := 14) (v := ?v15) rfl (by kernel_rfl) (by kernel_rfl) (by kernel_rfl) (by kernel_rfl) (fun _ _ _ h => h) (Or.inl ⟨by rfl, ?hy15⟩) (by assumption) ?_
      case hy15 => intro w hSw; have y0 := (hSw.cell (p := ⟨r, _, none⟩) kl).trans k0; have y2 := (hSw.cell (p := ⟨r, _, none⟩) kl).trans k2; have y8 := (hSw.cell (p := ⟨r, _, none⟩) kl).trans k8; have x0 := (hSw.cell (p := ⟨q, _, none⟩) tl).trans t0; have x1 := (hSw.cell (p := ⟨q, _, none⟩) tl).trans t1; have x2 := (hSw.cell (p := ⟨q, _, none⟩) tl).trans t2; go_simp; try with_reducible rfl
      simp only [Act.put, List.getElem_toArray, List.getElem_cons_zero, List.getElem_cons_succ, List.setIfInBounds_toArray, List.set_cons_zero, List.set_cons_succ]
      refine wpAnyN_take (i := 15) (v := ?v16) rfl (by kernel_rfl) (by kernel_rfl) (by kernel_rfl) (by kernel_rfl) (fun _ _ _ h => h) (Or.inl ⟨by rfl, ?hy16⟩) (by assumption) ?_
      case hy16 => intro w hSw; have y0 := (hSw.cell (p := ⟨r, _, none⟩) kl).trans k0; have y2 := (hSw.cell (p := ⟨r, _, none⟩) kl).trans k2; have y8 := (hSw.cell (p := ⟨r, _, none⟩) kl).trans k8; have x0 := (hSw.cell (p := ⟨q, _, none⟩) tl).trans t0; have x1 := (hSw.cell (p := ⟨q, _, none⟩) tl).trans t1; have x2 := (hSw.cell (p := ⟨q, _, none⟩) tl).trans t2; go_simp; try with_reducible rfl
      simp only [Act.put, List.getElem_toArray, List.getElem_cons_zero, List.getElem_cons_succ, List.setIfInBounds_toArray, List.set_cons_zero, List.set_cons_succ]
      refine wpAnyN_take (i := 16) (v := ?v17) rfl (by kernel_rfl) (by kernel_rfl) (by kernel_rfl) (by kernel_rfl) (fun _ _ _ h => h) (Or.inl ⟨by rfl, ?hy17⟩) (by assumption) ?_
      case hy17 => intro w hSw; have y0 := (hSw.cell (p := ⟨r, _, none⟩) kl).trans k0; have y2 := (hSw.cell (p := ⟨r, _, none⟩) kl).trans k2; have y8 := (hSw.cell (p := ⟨r, _, none⟩) kl).trans k8; have x0 := (hSw.cell (p := ⟨q, _, none⟩) tl).trans t0; have x1 := (hSw.cell (p := ⟨q, _, none⟩) tl).trans t1; have x2 := (hSw.cell (p := ⟨q, _, none⟩) tl).trans t2; go_simp; try with_reducible rfl
      simp only [Act.put, List.getElem_toArray, List.getElem_cons_zero, List.getElem_cons_succ, List.setIfInBounds_toArray, List.set_cons_zero, List.set_cons_succ]
      refine wpAnyN_take (i := 17) (v := ?v18) rfl (by kernel_rfl) (by kernel_rfl) (by kernel_rfl) (by kernel_rfl) (fun _ _ _ h => h) (Or.inl ⟨by rfl, ?hy18⟩) (by assumption) ?_
      case hy18 => intro w hSw; have y0 := (hSw.cell (p := ⟨r, _, none⟩) kl).trans k0; have y2 := (hSw.cell (p := ⟨r, _, none⟩) kl).trans k2; have y8 := (hSw.cell (p := ⟨r, _, none⟩) kl).trans k8; have x0 := (hSw.cell (p := ⟨q, _, none⟩) tl).trans t0; have x1 := (hSw.cell (p := ⟨q, _, none⟩) tl).trans t1; have x2 := (hSw.cell (p := ⟨q, _, none⟩) tl).trans t2; go_simp; try with_reducible rfl
      simp only [Act.put, List.getElem_toArray, List.getElem_cons_zero, List.getElem_cons_succ, List.setIfInBounds_toArray, List.set_cons_zero, List.set_cons_succ]
      refine wpAnyN_take (i := 18) (v := ?v19) rfl (by kernel_rfl) (by kernel_rfl) (by kernel_rfl) (by kernel_rfl) (fun _ _ _ h => h) (Or.inl ⟨by rfl, ?hy19⟩) (by assumption) ?_
      case hy19 => intro w hSw; have y0 := (hSw.cell (p := ⟨r, _, none⟩) kl).trans k0; have y2 := (hSw.cell (p := ⟨r, _, none⟩) kl).trans k2; have y8 := (hSw.cell (p := ⟨r, _, none⟩) kl).trans k8; have x0 := (hSw.cell (p := ⟨q, _, none⟩) tl).trans t0; have x1 := (hSw.cell (p := ⟨q, _, none⟩) tl).trans t1; have x2 := (hSw.cell (p := ⟨q, _, none⟩) tl).trans t2; go_simp; try with_reducible rfl
      simp only [Act.put, List.getElem_toArray, List.getElem_cons_zero, List.getElem_cons_succ, List.setIfInBounds_toArray, List.set_cons_zero, List.set_cons_succ]
      refine wpAnyN_take (i := 19) (v := ?v20) rfl (by kernel_rfl) (by kernel_rfl) (by kernel_rfl) (by kernel_rfl) (fun _ _ _ h => h) (Or.inl ⟨by rfl, ?hy20⟩) (by assumption) ?_
      case hy20 => intro w hSw; have y0 := (hSw.cell (p := ⟨r, _, none⟩) kl).trans k0; have y2 := (hSw.cell (p := ⟨r, _, none⟩) kl).trans k2; have y8 := (hSw.cell (p := ⟨r, _, none⟩) kl).trans k8; have x0 := (hSw.cell (p := ⟨q, _, none⟩) tl).trans t0; have x1 := (hSw.cell (p := ⟨q, _, none⟩) tl).trans t1; have x2 := (hSw.cell (p := ⟨q, _, none⟩) tl).trans t2; go_simp; try with_reducible rfl
      simp only [Act.put, List.getElem_toArray, List.getElem_cons_zero, List.getElem_cons_succ, List.setIfInBounds_toArray, List.set_cons_zero, List.set_cons_succ]
      refine wpAnyN_take (i := 20) (v := ?v21) rfl (by kernel_rfl) (by kernel_rfl) (by kernel_rfl) (by kernel_rfl) (fun _ _ _ h => h) (Or.inl ⟨by rfl, ?hy21⟩) (by assumption) ?_
      case hy21 => intro w hSw; have y0 := (hSw.cell (p := ⟨r, _, none⟩) kl).trans k0; have y2 := (hSw.cell (p := ⟨r, _, none⟩) kl).trans k2; have y8 := (hSw.cell (p := ⟨r, _, none⟩) kl).trans k8; have x0 := (hSw.cell (p := ⟨q, _, none⟩) tl).trans t0; have x1 := (hSw.cell (p := ⟨q, _, none⟩) tl).trans t1; have x2 := (hSw.cell (p := ⟨q, _, none⟩) tl).trans t2; go_simp; try with_reducible rfl
      simp only [Act.put, List.getElem_toArray, List.getElem_cons_zero, List.getElem_cons_succ, List.setIfInBounds_toArray, List.set_cons_zero, List.set_cons_succ]
      refine wpAnyN_take (i := 21) (v := ?v22) rfl (by kernel_rfl) (by kernel_rfl) (by kernel_rfl) (by kernel_rfl) (fun _ _ _ h => h) (Or.inl ⟨by rfl, ?hy22⟩) (by assumption) ?_
      case hy22 => intro w hSw; have y0 := (hSw.cell (p := ⟨r, _, none⟩) kl).trans k0; have y2 := (hSw.cell (p := ⟨r, _, none⟩) kl).trans k2; have y8 := (hSw.cell (p := ⟨r, _, none⟩) kl).trans k8; have x0 := (hSw.cell (p := ⟨q, _, none⟩) tl).trans t0; have x1 := (hSw.cell (p := ⟨q, _, none⟩) tl).trans t1; have x2 := (hSw.cell (p := ⟨q, _, none⟩) tl).trans t2; go_simp; try with_reducible rfl
      simp only [Act.put, List.getElem_toArray, List.getElem_cons_zero, List.getElem_cons_succ, List.setIfInBounds_toArray, List.set_cons_zero, List.set_cons_succ]
      refine wpAnyN_take (i := 22) (v := ?v23) rfl (by kernel_rfl) (by kernel_rfl) (by kernel_rfl) (by kernel_rfl) (fun _ _ _ h => h) (Or.inl ⟨by rfl, ?hy23⟩) (by assumption) ?_
      case hy23 => intro w hSw; have y0 := (hSw.cell (p := ⟨r, _, none⟩) kl).trans k0; have y2 := (hSw.cell (p := ⟨r, _, none⟩) kl).trans k2; have y8 := (hSw.cell (p := ⟨r, _, none⟩) kl).trans k8; have x0 := (hSw.cell (p := ⟨q, _, none⟩) tl).trans t0; have x1 := (hSw.cell (p := ⟨q, _, none⟩) tl).trans t1; have x2 := (hSw.cell (p := ⟨q, _, none⟩) tl).trans t2; go_simp; try with_reducible rfl
      simp only [Act.put, List.getElem_toArray, List.getElem_cons_zero, List.getElem_cons_succ, List.setIfInBounds_toArray, List.set_cons_zero, List.set_cons_succ]
      refine wpAnyN_take (i := 23) (v := ?v24) rfl (by kernel_rfl) (by kernel_rfl) (by kernel_rfl) (by kernel_rfl) (fun _ _ _ h => h) (Or.inl ⟨by rfl, ?hy24⟩) (by assumption) ?_
      case hy24 => intro w hSw; have y0 := (hSw.cell (p := ⟨r, _, none⟩) kl).trans k0; have y2 := (hSw.cell (p := ⟨r, _, none⟩) kl).trans k2; have y8 := (hSw.cell (p := ⟨r, _, none⟩) kl).trans k8; have x0 := (hSw.cell (p := ⟨q, _, none⟩) tl).trans t0; have x1 := (hSw.cell (p := ⟨q, _, none⟩) tl).trans t1; have x2 := (hSw.cell (p := ⟨q, _, none⟩) tl).trans t2; go_simp; try with_reducible rfl
      simp only [Act.put, List.getElem_toArray, List.getElem_cons_zero, List.getElem_cons_succ, List.setIfInBounds_toArray, List.set_cons_zero, List.set_cons_succ]
      refine wpAnyN_one (i := 24) (by kernel_rfl) rfl (fun K hK => ?_)
      simp only [List.getElem_toArray, List.getElem_cons_zero, List.getElem_cons_succ]
      go_simp
      refine (cell_any 0 _).mono ?_
      rintro e w9 ⟨rfl, hb9⟩
      have hs9 := hs.next hb9
      have HB9 := Lib.hid (HB.out.trans (hb9.mono (by have := hs.low; have := hs.box.lt; omega)))
      refine hK _ _ (fun _ => hb9) ?_
      (try simp only [Act.put, List.setIfInBounds_toArray, List.set_cons_zero, List.set_cons_succ])
      refine wpAnyN_one (i := 25) (by kernel_rfl) rfl (fun K hK => ?_)
      simp only [List.getElem_toArray, List.getElem_cons_zero, List.getElem_cons_succ]
      go_simp
      refine (is_own 2 1 0 hs9 z2 v8).mono ?_
      rintro e w10 ⟨rfl, hb10⟩
      have HA := Lib.hid (show OwnP w10 q q s2 from ⟨_, _, _, _, hs9.next hb10⟩)
      have HB10 := Lib.hid (HB9.out.trans (hb10.mono (by have := hs9.low; have := hs9.box.lt; omega)))
      refine hK _ _ (fun _ => bNext hb9 hb10) ?_
      (try simp only [Act.put, List.setIfInBounds_toArray, List.set_cons_zero, List.set_cons_succ])
      refine wpAnyN_one (i := 26) (by kernel_rfl) rfl (fun K hK => ?_)
      simp only [List.getElem_toArray, List.getElem_cons_zero, List.getElem_cons_succ]
      go_simp
      refine hK _ _ (fun _ => bNext hb9 hb10) ?_
      (try simp only [Act.put, List.setIfInBounds_toArray, List.set_cons_zero, List.set_cons_succ])
      refine wpAnyN_one (i := 27) (by kernel_rfl) rfl (fun K hK => ?_)
      simp only [List.getElem_toArray, List.getElem_cons_zero, List.getElem_cons_succ]
      go_simp
      refine hK _ _ (fun _ => bNext hb9 hb10) ?_
      (try simp only [Act.put, List.setIfInBounds_toArray, List.set_cons_zero, List.set_cons_succ])
      refine wpAnyN_done (by kernel_rfl) ?_ _
      clear H0 HB HB9 hs9 hs hb9 hb10 k0 k2 k8 kl t0 t1 t2 tl te
      have H0 := HA
      have HB := HB10
      clear HA HB10
      go_wp2_with fail
      refine (c14 _ H0.out).mono ?_
      rintro e w1 ⟨rfl, h1, hb1⟩
      have H1 := Lib.hid h1
      have HB1 := Lib.hid (HB.out.trans hb1)
      clear h1 hb1 H0 HB
      have H0 := H1
      have HB := HB1
      clear H1 HB1
      go_wp2_with fail
      refine (c15 _ H0.out).mono ?_
      rintro e w1 ⟨rfl, h1, hb1⟩
      have H1 := Lib.hid h1
      have HB1 := Lib.hid (HB.out.trans hb1)
      clear h1 hb1 H0 HB
      have H0 := H1
      have HB := HB1
      clear H1 HB1
      obtain ⟨A, c, A', c', ys, cs, hs⟩ := H0.out.open
      obtain ⟨t0, t1, t2⟩ := hs.cells
      have tl := hs.box.lt
      have te : s7.envs.length = 1 := rfl
      go_wp2_with fail
      refine (c16 _ H0.out).mono ?_
      rintro e w1 ⟨rfl, h1, hb1⟩
      have H1 := Lib.hid h1
      have HB1 := Lib.hid (HB.out.trans hb1)
      clear h1 hb1 H0 HB
      have H0 := H1
      have HB := HB1
      clear H1 HB1
      obtain ⟨A, c, A', c', ys, cs, hs⟩ := H0.out.open
      obtain ⟨t0, t1, t2⟩ := hs.cells
      have tl := hs.box.lt
      have te0 : s0.envs.length = 0 := rfl
      go_wp2_with fail
      go_ret
      exact ⟨rfl, by rw [← hq.out]; exact HB.out⟩
end Go.Proofs.Ytpkpffnabcgcbaa
