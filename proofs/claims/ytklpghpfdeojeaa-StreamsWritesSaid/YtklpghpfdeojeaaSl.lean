/-
  Walks: a change is applied to a copy of a state.
-/
import Derived.Test.YtklpghpfdeojeaaSk
namespace Go.Proofs.Ytklpghpfdeojeaa
open Go.RowKit

set_option maxHeartbeats 2000000 in
theorem with48_any (v : Value) (s s' : Sm) (w : World) (hs : SmAt w w.heap.size v s) (hf' : s'.files.length ≤ 4398046511104) (ho' : s'.opn.length ≤ 1954687338268)
    (hap : ∀ w6 B nb, w.heap.size ≤ nb → Below w.heap.size w w6 → Nw w6 B nb s → Calls Try.prog 48 #[.pointer (some ⟨nb, 0, none⟩)] w6 fun e w7 => e = .returned (.tuple #[]) ∧ Nw w7 B nb s' ∧ Below nb w6 w7) :
    Calls Try.prog 44 #[v, .agg #[.func (.func 48) #[] #[]]] w fun e w' => (∃ v', e = .returned v' ∧ OwnS w' w.heap.size v' s') ∧ Below w.heap.size w w' := by
  obtain ⟨i0, hi0, hz0, hy0, hb0⟩ := info_parts info35
  obtain ⟨i1, hi1, hz1, hy1, hb1⟩ := info_parts info52
  obtain ⟨A0, c0, A1, c1, rfl, ⟨hc0, hc1⟩, h0, h1⟩ := hs
  have hfl := h0.1.2
  have hol := h1.1.2
  have HA := Lib.hid h0
  have HO := Lib.hid h1
  have HC0 := Lib.hid hc0
  have HC1 := Lib.hid hc1
  have HAP := Lib.hid hap
  clear h0 h1 hc0 hc1 hap
  obtain ⟨W, HWd⟩ : ∃ W, Hid (W = (((w.alloc (smO A0 A1 c0 c1 s)).alloc (.cells #[.func (.func 48) #[] #[]] 82)).alloc smZ).alloc (smO A0 A1 c0 c1 s)) := ⟨_, rfl⟩
  have hbW : Below w.heap.size w W := by rw [HWd.out]; exact (((bAlloc _ _).alloc (by simp) _).alloc (by simp; omega) _).alloc (by simp; omega) _
  have hzW : w.heap.size + 1 + 1 + 1 + 1 ≤ W.heap.size := by rw [HWd.out]; simp
  obtain ⟨B, hB1, hB2⟩ : ∃ B, w.heap.size + 1 + 1 + 1 + 1 ≤ B ∧ B ≤ W.heap.size := ⟨_, hzW, Nat.le_refl _⟩
  have k0 : Blk W w.heap.size 25 #[.slice A0 s.files.length c0, .slice A1 s.opn.length c1, .int .i64 s.inp, .int .i64 s.out, .int .i64 s.nxt] := by
    rw [HWd.out]; exact (((Blk.new _ _ _).alloc _).alloc _).alloc _
  have k1 : Blk W (w.heap.size + 1) 82 #[.func (.func 48) #[] #[]] := by
    have h := ((Blk.new (w.alloc (smO A0 A1 c0 c1 s)) 82 #[.func (.func 48) #[] #[]]).alloc smZ).alloc (smO A0 A1 c0 c1 s)
    rw [World.size_alloc] at h
    rw [HWd.out]; exact h
  have k2 : Blk W (w.heap.size + 1 + 1) 25 #[.slice none 0 0, .slice none 0 0, .int .i64 0, .int .i64 0, .int .i64 0] := by
    have h := (Blk.new ((w.alloc (smO A0 A1 c0 c1 s)).alloc (.cells #[.func (.func 48) #[] #[]] 82)) 25 #[.slice none 0 0, .slice none 0 0, .int .i64 0, .int .i64 0, .int .i64 0]).alloc (smO A0 A1 c0 c1 s)
    rw [World.size_alloc, World.size_alloc] at h
    rw [HWd.out]; exact h
  have k3 : Blk W (w.heap.size + 1 + 1 + 1) 25 #[.slice A0 s.files.length c0, .slice A1 s.opn.length c1, .int .i64 s.inp, .int .i64 s.out, .int .i64 s.nxt] := by
    have h := Blk.new (((w.alloc (smO A0 A1 c0 c1 s)).alloc (.cells #[.func (.func 48) #[] #[]] 82)).alloc smZ) 25 #[.slice A0 s.files.length c0, .slice A1 s.opn.length c1, .int .i64 s.inp, .int .i64 s.out, .int .i64 s.nxt]
    rw [World.size_alloc, World.size_alloc, World.size_alloc] at h
    rw [HWd.out]; exact h
  have hst : ∀ (g : Fn) (ts cs : Array Value) (w : World) (a : Addr) (m : Mode), (store a (.func g ts cs) m).run Try.prog w = stored Try.prog w a (.func g ts cs) m := fun g ts cs w a m => run_store Try.prog w a _ m rfl
  go_enter Try.func44, Try.ntmps44
  go_upto_region 2 with fail
  rw [← HWd.out]
  obtain ⟨p0, p1', p2', p3', p4'⟩ := smBox' k0
  obtain ⟨n0, n1, n2, n3, n4⟩ := smBox' k3
  have nf0 := k3.frozen 0
  have nf1 := k3.frozen 1
  have hw3 : w.heap.size + 1 + 1 + 1 < W.heap.size := k3.lt
  go_wp2_with (refine wpList_make_full _ rfl (.tmp 9) (.tmp 9) 22 rfl B 35 i0 _ 2 Try.underlying22 hi0 hz0 hy0 .i64 .i64 _ _ s.files.length rfl rfl rfl rfl (by rw [hb0]; omega) (by unfold maxLen; omega) (by omega) ?_)
  intro w1 ho1 hg1
  have a0 := k0.grown hg1 (by simp)
  have a1 := k1.grown hg1 (by simp)
  have a2 := k2.grown hg1 (by simp)
  have a3 := k3.grown hg1 (by simp)
  have hbw1 : Below w.heap.size w w1 := hbW.grown hg1 hbW.size (fun k hk => by cases hk)
  have hz1' := hg1.size
  have m0 := a3.cell 0
  have m1 := a3.frozen 0
  have m2 := a3.lt
  simp at m0
  obtain ⟨G0, hG0⟩ : ∃ G0, Hid (G0 = W.heap.size) := ⟨_, rfl⟩
  rw [← hG0.out] at ho1 ⊢
  have hgl : G0 < w1.heap.size := (ho1.lt G0 rfl).2
  have hgb : B ≤ G0 := (ho1.lt G0 rfl).1
  obtain ⟨w2, HW2⟩ : ∃ w2, Hid (w2 = w1.setCell ⟨w.heap.size + 1 + 1 + 1, 0, none⟩ (.slice (some ⟨G0, 0, none⟩) s.files.length s.files.length)) := ⟨_, rfl⟩
  have hz2 : w1.heap.size = w2.heap.size := by rw [HW2.out]; simp
  have hbw2 : Below w.heap.size w w2 := by rw [HW2.out]; exact hbw1.setCell (by simp; omega) _
  have hk2 : ∀ b, b ≠ w.heap.size + 1 + 1 + 1 → w2.heap[b]? = w1.heap[b]? := fun b hb => by rw [HW2.out]; exact heap_setCell_other _ _ _ _ (by simpa using hb)
  have ho2 := own_stay (w' := w2) ho1 fun g hg => hk2 g (by have := (ho1.lt g hg).1; omega)
  have b0 : Blk w2 w.heap.size 25 _ := (hk2 _ (by omega)).trans a0
  have b1 : Blk w2 (w.heap.size + 1) 82 _ := (hk2 _ (by omega)).trans a1
  have b2 : Blk w2 (w.heap.size + 1 + 1) 25 _ := (hk2 _ (by omega)).trans a2
  have b3 : Blk w2 (w.heap.size + 1 + 1 + 1) 25 #[.slice (some ⟨G0, 0, none⟩) s.files.length s.files.length, .slice A1 s.opn.length c1, .int .i64 s.inp, .int .i64 s.out, .int .i64 s.nxt] := by
    rw [HW2.out]
    have h := a3.set_ 0 (.slice (some ⟨G0, 0, none⟩) s.files.length s.files.length)
    simpa using h
  go_upto_region 3 with fail
  rw [← HW2.out]
  clear p0 p1' p2' p3' p4' n0 n1 n2 n3 n4 nf0 nf1 m0 m1
  obtain ⟨p0, p1', p2', p3', p4'⟩ := smBox' b0
  have n0 := b3.cell 0
  simp at n0
  have hwz2 : w.heap.size + 1 + 1 + 1 < w2.heap.size := b3.lt
  go_wp2_with (refine wpList_copy_all rfl (.tmp 13) (.tmp 15) 22 35 rfl i0 2 Try.underlying22 hi0 hy0 B G0 s.files.length s.files.length _ rfl ho2 A0 c0 (fCs s.files) rfl HC0.out (by rw [fCs_len]) (files_cells (HA.out.below hbw2)) (f_one _) ?_)
  intro w3 ho3 hg3
  have e0 := b0.grown hg3 (by simp; omega)
  have e1 := b1.grown hg3 (by simp; omega)
  have e2 := b2.grown hg3 (by simp; omega)
  have e3 := b3.grown hg3 (by simp; omega)
  have hz3 := hg3.size
  have hbw3 : Below w.heap.size w w3 := hbw2.grown hg3 hbw2.size (fun k hk => by injection hk; omega)
  go_upto_region 4 with fail
  clear p0 p1' p2' p3' p4' n0 m2 hk2 ho1 ho2 hbw1 hbw2 hg1 hg3 a0 a1 a2 a3 b0 b1 b2 b3 k0 k1 k2 k3
  obtain ⟨p0, p1', p2', p3', p4'⟩ := smBox' e0
  have m0 := e3.cell 1
  have m1 := e3.frozen 1
  have m2 := e3.lt
  simp at m0
  have hwz3 : w.heap.size < w3.heap.size := e0.lt
  go_wp2_with (refine wpList_make_full _ rfl (.tmp 19) (.tmp 19) 23 rfl B 52 i1 _ 7 Try.underlying23 hi1 hz1 hy1 .i64 .i64 _ _ s.opn.length rfl rfl rfl rfl (by rw [hb1]; omega) (by unfold maxLen; omega) (by omega) ?_)
  intro w4 ho4 hg4
  have a0 := e0.grown hg4 (by simp)
  have a1 := e1.grown hg4 (by simp)
  have a2 := e2.grown hg4 (by simp)
  have a3 := e3.grown hg4 (by simp)
  have of4 := own_stay (w' := w4) ho3 fun g hg => hg4.block g (ho3.lt g hg).2 (by simp)
  have hbw4 : Below w.heap.size w w4 := hbw3.grown hg4 hbw3.size (fun k hk => by cases hk)
  have hz4' := hg4.size
  clear m0 m1 m2
  have m0 := a3.cell 1
  have m1 := a3.frozen 1
  have m2 := a3.lt
  simp at m0
  obtain ⟨G1, hG1⟩ : ∃ G1, Hid (G1 = w3.heap.size) := ⟨_, rfl⟩
  rw [← hG1.out] at ho4 ⊢
  have hgl1 : G1 < w4.heap.size := (ho4.lt G1 rfl).2
  have hgb1 : B ≤ G1 := (ho4.lt G1 rfl).1
  have hg01 : G0 < G1 := by rw [hG1.out]; exact (ho3.lt G0 rfl).2
  obtain ⟨w5, HW5⟩ : ∃ w5, Hid (w5 = w4.setCell ⟨w.heap.size + 1 + 1 + 1, 1, none⟩ (.slice (some ⟨G1, 0, none⟩) s.opn.length s.opn.length)) := ⟨_, rfl⟩
  have hz5 : w4.heap.size = w5.heap.size := by rw [HW5.out]; simp
  have hbw5 : Below w.heap.size w w5 := by rw [HW5.out]; exact hbw4.setCell (by simp; omega) _
  have hk5 : ∀ b, b ≠ w.heap.size + 1 + 1 + 1 → w5.heap[b]? = w4.heap[b]? := fun b hb => by rw [HW5.out]; exact heap_setCell_other _ _ _ _ (by simpa using hb)
  have ho5 := own_stay (w' := w5) ho4 fun g hg => hk5 g (by have := (ho4.lt g hg).1; omega)
  have of5 := own_stay (w' := w5) of4 fun g hg => hk5 g (by have := (of4.lt g hg).1; omega)
  have b0 : Blk w5 w.heap.size 25 _ := (hk5 _ (by omega)).trans a0
  have b1 : Blk w5 (w.heap.size + 1) 82 _ := (hk5 _ (by omega)).trans a1
  have b2 : Blk w5 (w.heap.size + 1 + 1) 25 _ := (hk5 _ (by omega)).trans a2
  have b3 : Blk w5 (w.heap.size + 1 + 1 + 1) 25 #[.slice (some ⟨G0, 0, none⟩) s.files.length s.files.length, .slice (some ⟨G1, 0, none⟩) s.opn.length s.opn.length, .int .i64 s.inp, .int .i64 s.out, .int .i64 s.nxt] := by
    rw [HW5.out]
    have h := a3.set_ 1 (.slice (some ⟨G1, 0, none⟩) s.opn.length s.opn.length)
    simpa using h
  go_upto_region 5 with fail
  rw [← HW5.out]
  clear p0 p1' p2' p3' p4' m0 m1
  obtain ⟨p0, p1', p2', p3', p4'⟩ := smBox' b0
  have n0 := b3.cell 1
  simp at n0
  have hwz5 : w.heap.size + 1 + 1 + 1 < w5.heap.size := b3.lt
  go_wp2_with (refine wpList_copy_all rfl (.tmp 23) (.tmp 25) 23 52 rfl i1 7 Try.underlying23 hi1 hy1 B G1 s.opn.length s.opn.length _ rfl ho5 A1 c1 (gCs s.opn) rfl HC1.out (by rw [gCs_len]) (opens_cells (HO.out.below hbw5)) (g_one _) ?_)
  intro w6 ho6 hg6
  have d1 := b1.grown hg6 (by simp; omega)
  have d2 := b2.grown hg6 (by simp; omega)
  have d3 := b3.grown hg6 (by simp; omega)
  have of6 := own_stay (w' := w6) of5 fun g hg => hg6.block g (of5.lt g hg).2 (by simp [Value.ownBlock] at hg; simp; omega)
  have hz6 := hg6.size
  have hbw6 : Below w.heap.size w w6 := hbw5.grown hg6 hbw5.size (fun k hk => by injection hk; omega)
  have hnw : Nw w6 B (w.heap.size + 1 + 1 + 1) s := ⟨by omega, by omega, _, _, d3, of6, ho6⟩
  have HNW := Lib.hid hnw
  have HB6 := Lib.hid hbw6
  have HD2 := Lib.hid d2
  have l0 := d1.cell 0
  have l1 := d1.lt
  simp at l0
  clear hnw p0 p1' p2' p3' p4' n0 hk5 ho4 ho5 ho6 of4 of5 of6 hbw3 hbw4 hbw5 hg4 hg6 a0 a1 a2 a3 b0 b1 b2 b3 e0 e1 e2 e3 d1 d2 d3 ho3 hbw6 hbW
  go_wp2_with fail
  refine (HAP.out w6 B (w.heap.size + 1 + 1 + 1) (by omega) HB6.out HNW.out).mono ?_
  rintro e w7 ⟨rfl, hn7, hb7⟩
  obtain ⟨-, hB7, v0, v1, q3, qf, qo⟩ := hn7
  obtain ⟨D0, f0, rfl, hcap0, -, -⟩ := own_files qf (by omega)
  obtain ⟨D1, f1, rfl, hcap1, -, -⟩ := own_opens qo (by omega)
  have q2 := HD2.out.below hb7 (by omega)
  have HB7 := Lib.hid (HB6.out.trans (hb7.mono (by omega)))
  have HFin : Hid (∀ W' : World, (∀ b, B ≤ b → W'.heap[b]? = w7.heap[b]?) → OwnS W' w.heap.size (smV D0 D1 f0 f1 s') s') := Lib.hid fun W' hk => by
    have h1 := own_stay (w' := W') qf fun g hg => hk g (qf.lt g hg).1
    have h2 := own_stay (w' := W') qo fun g hg => hk g (qo.lt g hg).1
    exact ⟨_, _, rfl, own_base h1 (by omega), own_base h2 (by omega)⟩
  obtain ⟨y0, y1, y2, y3, y4⟩ := smBox' q3
  have z0 := q2.cell 0
  have z1 := q2.cell 1
  have z2 := q2.cell 2
  have z3 := q2.cell 3
  have z4 := q2.cell 4
  have g0 := q2.frozen 0
  have g1 := q2.frozen 1
  have g2 := q2.frozen 2
  have g3 := q2.frozen 3
  have g4 := q2.frozen 4
  have zz := q2.lt
  simp at z0 z1 z2 z3 z4
  clear hb7 q3 q2 qf qo
  go_wp2
  refine bodyPost_ret (v := smV D0 D1 f0 f1 s') (by simp [results, Try.results44, go_sem, z0, z1, z2, z3, z4]) rfl ⟨⟨_, rfl, ?_⟩, ?_⟩
  · refine HFin.out _ fun b hb => ?_
    repeat rw [heap_setCell_other _ _ _ _ (by simp; omega)]
  · repeat refine Below.setCell ?_ (by simp; omega) _
    exact HB7.out

set_option maxHeartbeats 2000000 in
theorem with49_any (v : Value) (s s' : Sm) (p1 p2 : Nat) (w : World) (hs : SmAt w w.heap.size v s) (hf' : s'.files.length ≤ 4398046511104) (ho' : s'.opn.length ≤ 1954687338268)
    (hap : ∀ w6 B nb, w.heap.size ≤ nb → Below w.heap.size w w6 → Nw w6 B nb s → Calls Try.prog 49 #[.pointer (some ⟨nb, 0, none⟩), .pointer (some ⟨p1, 0, none⟩), .pointer (some ⟨p2, 0, none⟩)] w6 fun e w7 => e = .returned (.tuple #[]) ∧ Nw w7 B nb s' ∧ Below nb w6 w7) :
    Calls Try.prog 44 #[v, .agg #[.func (.func 49) #[] #[.pointer (some ⟨p1, 0, none⟩), .pointer (some ⟨p2, 0, none⟩)]]] w fun e w' => (∃ v', e = .returned v' ∧ OwnS w' w.heap.size v' s') ∧ Below w.heap.size w w' := by
  obtain ⟨i0, hi0, hz0, hy0, hb0⟩ := info_parts info35
  obtain ⟨i1, hi1, hz1, hy1, hb1⟩ := info_parts info52
  obtain ⟨A0, c0, A1, c1, rfl, ⟨hc0, hc1⟩, h0, h1⟩ := hs
  have hfl := h0.1.2
  have hol := h1.1.2
  have HA := Lib.hid h0
  have HO := Lib.hid h1
  have HC0 := Lib.hid hc0
  have HC1 := Lib.hid hc1
  have HAP := Lib.hid hap
  clear h0 h1 hc0 hc1 hap
  obtain ⟨W, HWd⟩ : ∃ W, Hid (W = (((w.alloc (smO A0 A1 c0 c1 s)).alloc (.cells #[.func (.func 49) #[] #[.pointer (some ⟨p1, 0, none⟩), .pointer (some ⟨p2, 0, none⟩)]] 82)).alloc smZ).alloc (smO A0 A1 c0 c1 s)) := ⟨_, rfl⟩
  have hbW : Below w.heap.size w W := by rw [HWd.out]; exact (((bAlloc _ _).alloc (by simp) _).alloc (by simp; omega) _).alloc (by simp; omega) _
  have hzW : w.heap.size + 1 + 1 + 1 + 1 ≤ W.heap.size := by rw [HWd.out]; simp
  obtain ⟨B, hB1, hB2⟩ : ∃ B, w.heap.size + 1 + 1 + 1 + 1 ≤ B ∧ B ≤ W.heap.size := ⟨_, hzW, Nat.le_refl _⟩
  have k0 : Blk W w.heap.size 25 #[.slice A0 s.files.length c0, .slice A1 s.opn.length c1, .int .i64 s.inp, .int .i64 s.out, .int .i64 s.nxt] := by
    rw [HWd.out]; exact (((Blk.new _ _ _).alloc _).alloc _).alloc _
  have k1 : Blk W (w.heap.size + 1) 82 #[.func (.func 49) #[] #[.pointer (some ⟨p1, 0, none⟩), .pointer (some ⟨p2, 0, none⟩)]] := by
    have h := ((Blk.new (w.alloc (smO A0 A1 c0 c1 s)) 82 #[.func (.func 49) #[] #[.pointer (some ⟨p1, 0, none⟩), .pointer (some ⟨p2, 0, none⟩)]]).alloc smZ).alloc (smO A0 A1 c0 c1 s)
    rw [World.size_alloc] at h
    rw [HWd.out]; exact h
  have k2 : Blk W (w.heap.size + 1 + 1) 25 #[.slice none 0 0, .slice none 0 0, .int .i64 0, .int .i64 0, .int .i64 0] := by
    have h := (Blk.new ((w.alloc (smO A0 A1 c0 c1 s)).alloc (.cells #[.func (.func 49) #[] #[.pointer (some ⟨p1, 0, none⟩), .pointer (some ⟨p2, 0, none⟩)]] 82)) 25 #[.slice none 0 0, .slice none 0 0, .int .i64 0, .int .i64 0, .int .i64 0]).alloc (smO A0 A1 c0 c1 s)
    rw [World.size_alloc, World.size_alloc] at h
    rw [HWd.out]; exact h
  have k3 : Blk W (w.heap.size + 1 + 1 + 1) 25 #[.slice A0 s.files.length c0, .slice A1 s.opn.length c1, .int .i64 s.inp, .int .i64 s.out, .int .i64 s.nxt] := by
    have h := Blk.new (((w.alloc (smO A0 A1 c0 c1 s)).alloc (.cells #[.func (.func 49) #[] #[.pointer (some ⟨p1, 0, none⟩), .pointer (some ⟨p2, 0, none⟩)]] 82)).alloc smZ) 25 #[.slice A0 s.files.length c0, .slice A1 s.opn.length c1, .int .i64 s.inp, .int .i64 s.out, .int .i64 s.nxt]
    rw [World.size_alloc, World.size_alloc, World.size_alloc] at h
    rw [HWd.out]; exact h
  have hst : ∀ (g : Fn) (ts cs : Array Value) (w : World) (a : Addr) (m : Mode), (store a (.func g ts cs) m).run Try.prog w = stored Try.prog w a (.func g ts cs) m := fun g ts cs w a m => run_store Try.prog w a _ m rfl
  go_enter Try.func44, Try.ntmps44
  go_upto_region 2 with fail
  rw [← HWd.out]
  obtain ⟨p0, p1', p2', p3', p4'⟩ := smBox' k0
  obtain ⟨n0, n1, n2, n3, n4⟩ := smBox' k3
  have nf0 := k3.frozen 0
  have nf1 := k3.frozen 1
  have hw3 : w.heap.size + 1 + 1 + 1 < W.heap.size := k3.lt
  go_wp2_with (refine wpList_make_full _ rfl (.tmp 9) (.tmp 9) 22 rfl B 35 i0 _ 2 Try.underlying22 hi0 hz0 hy0 .i64 .i64 _ _ s.files.length rfl rfl rfl rfl (by rw [hb0]; omega) (by unfold maxLen; omega) (by omega) ?_)
  intro w1 ho1 hg1
  have a0 := k0.grown hg1 (by simp)
  have a1 := k1.grown hg1 (by simp)
  have a2 := k2.grown hg1 (by simp)
  have a3 := k3.grown hg1 (by simp)
  have hbw1 : Below w.heap.size w w1 := hbW.grown hg1 hbW.size (fun k hk => by cases hk)
  have hz1' := hg1.size
  have m0 := a3.cell 0
  have m1 := a3.frozen 0
  have m2 := a3.lt
  simp at m0
  obtain ⟨G0, hG0⟩ : ∃ G0, Hid (G0 = W.heap.size) := ⟨_, rfl⟩
  rw [← hG0.out] at ho1 ⊢
  have hgl : G0 < w1.heap.size := (ho1.lt G0 rfl).2
  have hgb : B ≤ G0 := (ho1.lt G0 rfl).1
  obtain ⟨w2, HW2⟩ : ∃ w2, Hid (w2 = w1.setCell ⟨w.heap.size + 1 + 1 + 1, 0, none⟩ (.slice (some ⟨G0, 0, none⟩) s.files.length s.files.length)) := ⟨_, rfl⟩
  have hz2 : w1.heap.size = w2.heap.size := by rw [HW2.out]; simp
  have hbw2 : Below w.heap.size w w2 := by rw [HW2.out]; exact hbw1.setCell (by simp; omega) _
  have hk2 : ∀ b, b ≠ w.heap.size + 1 + 1 + 1 → w2.heap[b]? = w1.heap[b]? := fun b hb => by rw [HW2.out]; exact heap_setCell_other _ _ _ _ (by simpa using hb)
  have ho2 := own_stay (w' := w2) ho1 fun g hg => hk2 g (by have := (ho1.lt g hg).1; omega)
  have b0 : Blk w2 w.heap.size 25 _ := (hk2 _ (by omega)).trans a0
  have b1 : Blk w2 (w.heap.size + 1) 82 _ := (hk2 _ (by omega)).trans a1
  have b2 : Blk w2 (w.heap.size + 1 + 1) 25 _ := (hk2 _ (by omega)).trans a2
  have b3 : Blk w2 (w.heap.size + 1 + 1 + 1) 25 #[.slice (some ⟨G0, 0, none⟩) s.files.length s.files.length, .slice A1 s.opn.length c1, .int .i64 s.inp, .int .i64 s.out, .int .i64 s.nxt] := by
    rw [HW2.out]
    have h := a3.set_ 0 (.slice (some ⟨G0, 0, none⟩) s.files.length s.files.length)
    simpa using h
  go_upto_region 3 with fail
  rw [← HW2.out]
  clear p0 p1' p2' p3' p4' n0 n1 n2 n3 n4 nf0 nf1 m0 m1
  obtain ⟨p0, p1', p2', p3', p4'⟩ := smBox' b0
  have n0 := b3.cell 0
  simp at n0
  have hwz2 : w.heap.size + 1 + 1 + 1 < w2.heap.size := b3.lt
  go_wp2_with (refine wpList_copy_all rfl (.tmp 13) (.tmp 15) 22 35 rfl i0 2 Try.underlying22 hi0 hy0 B G0 s.files.length s.files.length _ rfl ho2 A0 c0 (fCs s.files) rfl HC0.out (by rw [fCs_len]) (files_cells (HA.out.below hbw2)) (f_one _) ?_)
  intro w3 ho3 hg3
  have e0 := b0.grown hg3 (by simp; omega)
  have e1 := b1.grown hg3 (by simp; omega)
  have e2 := b2.grown hg3 (by simp; omega)
  have e3 := b3.grown hg3 (by simp; omega)
  have hz3 := hg3.size
  have hbw3 : Below w.heap.size w w3 := hbw2.grown hg3 hbw2.size (fun k hk => by injection hk; omega)
  go_upto_region 4 with fail
  clear p0 p1' p2' p3' p4' n0 m2 hk2 ho1 ho2 hbw1 hbw2 hg1 hg3 a0 a1 a2 a3 b0 b1 b2 b3 k0 k1 k2 k3
  obtain ⟨p0, p1', p2', p3', p4'⟩ := smBox' e0
  have m0 := e3.cell 1
  have m1 := e3.frozen 1
  have m2 := e3.lt
  simp at m0
  have hwz3 : w.heap.size < w3.heap.size := e0.lt
  go_wp2_with (refine wpList_make_full _ rfl (.tmp 19) (.tmp 19) 23 rfl B 52 i1 _ 7 Try.underlying23 hi1 hz1 hy1 .i64 .i64 _ _ s.opn.length rfl rfl rfl rfl (by rw [hb1]; omega) (by unfold maxLen; omega) (by omega) ?_)
  intro w4 ho4 hg4
  have a0 := e0.grown hg4 (by simp)
  have a1 := e1.grown hg4 (by simp)
  have a2 := e2.grown hg4 (by simp)
  have a3 := e3.grown hg4 (by simp)
  have of4 := own_stay (w' := w4) ho3 fun g hg => hg4.block g (ho3.lt g hg).2 (by simp)
  have hbw4 : Below w.heap.size w w4 := hbw3.grown hg4 hbw3.size (fun k hk => by cases hk)
  have hz4' := hg4.size
  clear m0 m1 m2
  have m0 := a3.cell 1
  have m1 := a3.frozen 1
  have m2 := a3.lt
  simp at m0
  obtain ⟨G1, hG1⟩ : ∃ G1, Hid (G1 = w3.heap.size) := ⟨_, rfl⟩
  rw [← hG1.out] at ho4 ⊢
  have hgl1 : G1 < w4.heap.size := (ho4.lt G1 rfl).2
  have hgb1 : B ≤ G1 := (ho4.lt G1 rfl).1
  have hg01 : G0 < G1 := by rw [hG1.out]; exact (ho3.lt G0 rfl).2
  obtain ⟨w5, HW5⟩ : ∃ w5, Hid (w5 = w4.setCell ⟨w.heap.size + 1 + 1 + 1, 1, none⟩ (.slice (some ⟨G1, 0, none⟩) s.opn.length s.opn.length)) := ⟨_, rfl⟩
  have hz5 : w4.heap.size = w5.heap.size := by rw [HW5.out]; simp
  have hbw5 : Below w.heap.size w w5 := by rw [HW5.out]; exact hbw4.setCell (by simp; omega) _
  have hk5 : ∀ b, b ≠ w.heap.size + 1 + 1 + 1 → w5.heap[b]? = w4.heap[b]? := fun b hb => by rw [HW5.out]; exact heap_setCell_other _ _ _ _ (by simpa using hb)
  have ho5 := own_stay (w' := w5) ho4 fun g hg => hk5 g (by have := (ho4.lt g hg).1; omega)
  have of5 := own_stay (w' := w5) of4 fun g hg => hk5 g (by have := (of4.lt g hg).1; omega)
  have b0 : Blk w5 w.heap.size 25 _ := (hk5 _ (by omega)).trans a0
  have b1 : Blk w5 (w.heap.size + 1) 82 _ := (hk5 _ (by omega)).trans a1
  have b2 : Blk w5 (w.heap.size + 1 + 1) 25 _ := (hk5 _ (by omega)).trans a2
  have b3 : Blk w5 (w.heap.size + 1 + 1 + 1) 25 #[.slice (some ⟨G0, 0, none⟩) s.files.length s.files.length, .slice (some ⟨G1, 0, none⟩) s.opn.length s.opn.length, .int .i64 s.inp, .int .i64 s.out, .int .i64 s.nxt] := by
    rw [HW5.out]
    have h := a3.set_ 1 (.slice (some ⟨G1, 0, none⟩) s.opn.length s.opn.length)
    simpa using h
  go_upto_region 5 with fail
  rw [← HW5.out]
  clear p0 p1' p2' p3' p4' m0 m1
  obtain ⟨p0, p1', p2', p3', p4'⟩ := smBox' b0
  have n0 := b3.cell 1
  simp at n0
  have hwz5 : w.heap.size + 1 + 1 + 1 < w5.heap.size := b3.lt
  go_wp2_with (refine wpList_copy_all rfl (.tmp 23) (.tmp 25) 23 52 rfl i1 7 Try.underlying23 hi1 hy1 B G1 s.opn.length s.opn.length _ rfl ho5 A1 c1 (gCs s.opn) rfl HC1.out (by rw [gCs_len]) (opens_cells (HO.out.below hbw5)) (g_one _) ?_)
  intro w6 ho6 hg6
  have d1 := b1.grown hg6 (by simp; omega)
  have d2 := b2.grown hg6 (by simp; omega)
  have d3 := b3.grown hg6 (by simp; omega)
  have of6 := own_stay (w' := w6) of5 fun g hg => hg6.block g (of5.lt g hg).2 (by simp [Value.ownBlock] at hg; simp; omega)
  have hz6 := hg6.size
  have hbw6 : Below w.heap.size w w6 := hbw5.grown hg6 hbw5.size (fun k hk => by injection hk; omega)
  have hnw : Nw w6 B (w.heap.size + 1 + 1 + 1) s := ⟨by omega, by omega, _, _, d3, of6, ho6⟩
  have HNW := Lib.hid hnw
  have HB6 := Lib.hid hbw6
  have HD2 := Lib.hid d2
  have l0 := d1.cell 0
  have l1 := d1.lt
  simp at l0
  clear hnw p0 p1' p2' p3' p4' n0 hk5 ho4 ho5 ho6 of4 of5 of6 hbw3 hbw4 hbw5 hg4 hg6 a0 a1 a2 a3 b0 b1 b2 b3 e0 e1 e2 e3 d1 d2 d3 ho3 hbw6 hbW
  go_wp2_with fail
  refine (HAP.out w6 B (w.heap.size + 1 + 1 + 1) (by omega) HB6.out HNW.out).mono ?_
  rintro e w7 ⟨rfl, hn7, hb7⟩
  obtain ⟨-, hB7, v0, v1, q3, qf, qo⟩ := hn7
  obtain ⟨D0, f0, rfl, hcap0, -, -⟩ := own_files qf (by omega)
  obtain ⟨D1, f1, rfl, hcap1, -, -⟩ := own_opens qo (by omega)
  have q2 := HD2.out.below hb7 (by omega)
  have HB7 := Lib.hid (HB6.out.trans (hb7.mono (by omega)))
  have HFin : Hid (∀ W' : World, (∀ b, B ≤ b → W'.heap[b]? = w7.heap[b]?) → OwnS W' w.heap.size (smV D0 D1 f0 f1 s') s') := Lib.hid fun W' hk => by
    have h1 := own_stay (w' := W') qf fun g hg => hk g (qf.lt g hg).1
    have h2 := own_stay (w' := W') qo fun g hg => hk g (qo.lt g hg).1
    exact ⟨_, _, rfl, own_base h1 (by omega), own_base h2 (by omega)⟩
  obtain ⟨y0, y1, y2, y3, y4⟩ := smBox' q3
  have z0 := q2.cell 0
  have z1 := q2.cell 1
  have z2 := q2.cell 2
  have z3 := q2.cell 3
  have z4 := q2.cell 4
  have g0 := q2.frozen 0
  have g1 := q2.frozen 1
  have g2 := q2.frozen 2
  have g3 := q2.frozen 3
  have g4 := q2.frozen 4
  have zz := q2.lt
  simp at z0 z1 z2 z3 z4
  clear hb7 q3 q2 qf qo
  go_wp2
  refine bodyPost_ret (v := smV D0 D1 f0 f1 s') (by simp [results, Try.results44, go_sem, z0, z1, z2, z3, z4]) rfl ⟨⟨_, rfl, ?_⟩, ?_⟩
  · refine HFin.out _ fun b hb => ?_
    repeat rw [heap_setCell_other _ _ _ _ (by simp; omega)]
  · repeat refine Below.setCell ?_ (by simp; omega) _
    exact HB7.out

set_option maxHeartbeats 2000000 in
theorem with51_any (v : Value) (s s' : Sm) (p1 p2 : Nat) (w : World) (hs : SmAt w w.heap.size v s) (hf' : s'.files.length ≤ 4398046511104) (ho' : s'.opn.length ≤ 1954687338268)
    (hap : ∀ w6 B nb, w.heap.size ≤ nb → Below w.heap.size w w6 → Nw w6 B nb s → Calls Try.prog 51 #[.pointer (some ⟨nb, 0, none⟩), .pointer (some ⟨p1, 0, none⟩), .pointer (some ⟨p2, 0, none⟩)] w6 fun e w7 => e = .returned (.tuple #[]) ∧ Nw w7 B nb s' ∧ Below nb w6 w7) :
    Calls Try.prog 44 #[v, .agg #[.func (.func 51) #[] #[.pointer (some ⟨p1, 0, none⟩), .pointer (some ⟨p2, 0, none⟩)]]] w fun e w' => (∃ v', e = .returned v' ∧ OwnS w' w.heap.size v' s') ∧ Below w.heap.size w w' := by
  obtain ⟨i0, hi0, hz0, hy0, hb0⟩ := info_parts info35
  obtain ⟨i1, hi1, hz1, hy1, hb1⟩ := info_parts info52
  obtain ⟨A0, c0, A1, c1, rfl, ⟨hc0, hc1⟩, h0, h1⟩ := hs
  have hfl := h0.1.2
  have hol := h1.1.2
  have HA := Lib.hid h0
  have HO := Lib.hid h1
  have HC0 := Lib.hid hc0
  have HC1 := Lib.hid hc1
  have HAP := Lib.hid hap
  clear h0 h1 hc0 hc1 hap
  obtain ⟨W, HWd⟩ : ∃ W, Hid (W = (((w.alloc (smO A0 A1 c0 c1 s)).alloc (.cells #[.func (.func 51) #[] #[.pointer (some ⟨p1, 0, none⟩), .pointer (some ⟨p2, 0, none⟩)]] 82)).alloc smZ).alloc (smO A0 A1 c0 c1 s)) := ⟨_, rfl⟩
  have hbW : Below w.heap.size w W := by rw [HWd.out]; exact (((bAlloc _ _).alloc (by simp) _).alloc (by simp; omega) _).alloc (by simp; omega) _
  have hzW : w.heap.size + 1 + 1 + 1 + 1 ≤ W.heap.size := by rw [HWd.out]; simp
  obtain ⟨B, hB1, hB2⟩ : ∃ B, w.heap.size + 1 + 1 + 1 + 1 ≤ B ∧ B ≤ W.heap.size := ⟨_, hzW, Nat.le_refl _⟩
  have k0 : Blk W w.heap.size 25 #[.slice A0 s.files.length c0, .slice A1 s.opn.length c1, .int .i64 s.inp, .int .i64 s.out, .int .i64 s.nxt] := by
    rw [HWd.out]; exact (((Blk.new _ _ _).alloc _).alloc _).alloc _
  have k1 : Blk W (w.heap.size + 1) 82 #[.func (.func 51) #[] #[.pointer (some ⟨p1, 0, none⟩), .pointer (some ⟨p2, 0, none⟩)]] := by
    have h := ((Blk.new (w.alloc (smO A0 A1 c0 c1 s)) 82 #[.func (.func 51) #[] #[.pointer (some ⟨p1, 0, none⟩), .pointer (some ⟨p2, 0, none⟩)]]).alloc smZ).alloc (smO A0 A1 c0 c1 s)
    rw [World.size_alloc] at h
    rw [HWd.out]; exact h
  have k2 : Blk W (w.heap.size + 1 + 1) 25 #[.slice none 0 0, .slice none 0 0, .int .i64 0, .int .i64 0, .int .i64 0] := by
    have h := (Blk.new ((w.alloc (smO A0 A1 c0 c1 s)).alloc (.cells #[.func (.func 51) #[] #[.pointer (some ⟨p1, 0, none⟩), .pointer (some ⟨p2, 0, none⟩)]] 82)) 25 #[.slice none 0 0, .slice none 0 0, .int .i64 0, .int .i64 0, .int .i64 0]).alloc (smO A0 A1 c0 c1 s)
    rw [World.size_alloc, World.size_alloc] at h
    rw [HWd.out]; exact h
  have k3 : Blk W (w.heap.size + 1 + 1 + 1) 25 #[.slice A0 s.files.length c0, .slice A1 s.opn.length c1, .int .i64 s.inp, .int .i64 s.out, .int .i64 s.nxt] := by
    have h := Blk.new (((w.alloc (smO A0 A1 c0 c1 s)).alloc (.cells #[.func (.func 51) #[] #[.pointer (some ⟨p1, 0, none⟩), .pointer (some ⟨p2, 0, none⟩)]] 82)).alloc smZ) 25 #[.slice A0 s.files.length c0, .slice A1 s.opn.length c1, .int .i64 s.inp, .int .i64 s.out, .int .i64 s.nxt]
    rw [World.size_alloc, World.size_alloc, World.size_alloc] at h
    rw [HWd.out]; exact h
  have hst : ∀ (g : Fn) (ts cs : Array Value) (w : World) (a : Addr) (m : Mode), (store a (.func g ts cs) m).run Try.prog w = stored Try.prog w a (.func g ts cs) m := fun g ts cs w a m => run_store Try.prog w a _ m rfl
  go_enter Try.func44, Try.ntmps44
  go_upto_region 2 with fail
  rw [← HWd.out]
  obtain ⟨p0, p1', p2', p3', p4'⟩ := smBox' k0
  obtain ⟨n0, n1, n2, n3, n4⟩ := smBox' k3
  have nf0 := k3.frozen 0
  have nf1 := k3.frozen 1
  have hw3 : w.heap.size + 1 + 1 + 1 < W.heap.size := k3.lt
  go_wp2_with (refine wpList_make_full _ rfl (.tmp 9) (.tmp 9) 22 rfl B 35 i0 _ 2 Try.underlying22 hi0 hz0 hy0 .i64 .i64 _ _ s.files.length rfl rfl rfl rfl (by rw [hb0]; omega) (by unfold maxLen; omega) (by omega) ?_)
  intro w1 ho1 hg1
  have a0 := k0.grown hg1 (by simp)
  have a1 := k1.grown hg1 (by simp)
  have a2 := k2.grown hg1 (by simp)
  have a3 := k3.grown hg1 (by simp)
  have hbw1 : Below w.heap.size w w1 := hbW.grown hg1 hbW.size (fun k hk => by cases hk)
  have hz1' := hg1.size
  have m0 := a3.cell 0
  have m1 := a3.frozen 0
  have m2 := a3.lt
  simp at m0
  obtain ⟨G0, hG0⟩ : ∃ G0, Hid (G0 = W.heap.size) := ⟨_, rfl⟩
  rw [← hG0.out] at ho1 ⊢
  have hgl : G0 < w1.heap.size := (ho1.lt G0 rfl).2
  have hgb : B ≤ G0 := (ho1.lt G0 rfl).1
  obtain ⟨w2, HW2⟩ : ∃ w2, Hid (w2 = w1.setCell ⟨w.heap.size + 1 + 1 + 1, 0, none⟩ (.slice (some ⟨G0, 0, none⟩) s.files.length s.files.length)) := ⟨_, rfl⟩
  have hz2 : w1.heap.size = w2.heap.size := by rw [HW2.out]; simp
  have hbw2 : Below w.heap.size w w2 := by rw [HW2.out]; exact hbw1.setCell (by simp; omega) _
  have hk2 : ∀ b, b ≠ w.heap.size + 1 + 1 + 1 → w2.heap[b]? = w1.heap[b]? := fun b hb => by rw [HW2.out]; exact heap_setCell_other _ _ _ _ (by simpa using hb)
  have ho2 := own_stay (w' := w2) ho1 fun g hg => hk2 g (by have := (ho1.lt g hg).1; omega)
  have b0 : Blk w2 w.heap.size 25 _ := (hk2 _ (by omega)).trans a0
  have b1 : Blk w2 (w.heap.size + 1) 82 _ := (hk2 _ (by omega)).trans a1
  have b2 : Blk w2 (w.heap.size + 1 + 1) 25 _ := (hk2 _ (by omega)).trans a2
  have b3 : Blk w2 (w.heap.size + 1 + 1 + 1) 25 #[.slice (some ⟨G0, 0, none⟩) s.files.length s.files.length, .slice A1 s.opn.length c1, .int .i64 s.inp, .int .i64 s.out, .int .i64 s.nxt] := by
    rw [HW2.out]
    have h := a3.set_ 0 (.slice (some ⟨G0, 0, none⟩) s.files.length s.files.length)
    simpa using h
  go_upto_region 3 with fail
  rw [← HW2.out]
  clear p0 p1' p2' p3' p4' n0 n1 n2 n3 n4 nf0 nf1 m0 m1
  obtain ⟨p0, p1', p2', p3', p4'⟩ := smBox' b0
  have n0 := b3.cell 0
  simp at n0
  have hwz2 : w.heap.size + 1 + 1 + 1 < w2.heap.size := b3.lt
  go_wp2_with (refine wpList_copy_all rfl (.tmp 13) (.tmp 15) 22 35 rfl i0 2 Try.underlying22 hi0 hy0 B G0 s.files.length s.files.length _ rfl ho2 A0 c0 (fCs s.files) rfl HC0.out (by rw [fCs_len]) (files_cells (HA.out.below hbw2)) (f_one _) ?_)
  intro w3 ho3 hg3
  have e0 := b0.grown hg3 (by simp; omega)
  have e1 := b1.grown hg3 (by simp; omega)
  have e2 := b2.grown hg3 (by simp; omega)
  have e3 := b3.grown hg3 (by simp; omega)
  have hz3 := hg3.size
  have hbw3 : Below w.heap.size w w3 := hbw2.grown hg3 hbw2.size (fun k hk => by injection hk; omega)
  go_upto_region 4 with fail
  clear p0 p1' p2' p3' p4' n0 m2 hk2 ho1 ho2 hbw1 hbw2 hg1 hg3 a0 a1 a2 a3 b0 b1 b2 b3 k0 k1 k2 k3
  obtain ⟨p0, p1', p2', p3', p4'⟩ := smBox' e0
  have m0 := e3.cell 1
  have m1 := e3.frozen 1
  have m2 := e3.lt
  simp at m0
  have hwz3 : w.heap.size < w3.heap.size := e0.lt
  go_wp2_with (refine wpList_make_full _ rfl (.tmp 19) (.tmp 19) 23 rfl B 52 i1 _ 7 Try.underlying23 hi1 hz1 hy1 .i64 .i64 _ _ s.opn.length rfl rfl rfl rfl (by rw [hb1]; omega) (by unfold maxLen; omega) (by omega) ?_)
  intro w4 ho4 hg4
  have a0 := e0.grown hg4 (by simp)
  have a1 := e1.grown hg4 (by simp)
  have a2 := e2.grown hg4 (by simp)
  have a3 := e3.grown hg4 (by simp)
  have of4 := own_stay (w' := w4) ho3 fun g hg => hg4.block g (ho3.lt g hg).2 (by simp)
  have hbw4 : Below w.heap.size w w4 := hbw3.grown hg4 hbw3.size (fun k hk => by cases hk)
  have hz4' := hg4.size
  clear m0 m1 m2
  have m0 := a3.cell 1
  have m1 := a3.frozen 1
  have m2 := a3.lt
  simp at m0
  obtain ⟨G1, hG1⟩ : ∃ G1, Hid (G1 = w3.heap.size) := ⟨_, rfl⟩
  rw [← hG1.out] at ho4 ⊢
  have hgl1 : G1 < w4.heap.size := (ho4.lt G1 rfl).2
  have hgb1 : B ≤ G1 := (ho4.lt G1 rfl).1
  have hg01 : G0 < G1 := by rw [hG1.out]; exact (ho3.lt G0 rfl).2
  obtain ⟨w5, HW5⟩ : ∃ w5, Hid (w5 = w4.setCell ⟨w.heap.size + 1 + 1 + 1, 1, none⟩ (.slice (some ⟨G1, 0, none⟩) s.opn.length s.opn.length)) := ⟨_, rfl⟩
  have hz5 : w4.heap.size = w5.heap.size := by rw [HW5.out]; simp
  have hbw5 : Below w.heap.size w w5 := by rw [HW5.out]; exact hbw4.setCell (by simp; omega) _
  have hk5 : ∀ b, b ≠ w.heap.size + 1 + 1 + 1 → w5.heap[b]? = w4.heap[b]? := fun b hb => by rw [HW5.out]; exact heap_setCell_other _ _ _ _ (by simpa using hb)
  have ho5 := own_stay (w' := w5) ho4 fun g hg => hk5 g (by have := (ho4.lt g hg).1; omega)
  have of5 := own_stay (w' := w5) of4 fun g hg => hk5 g (by have := (of4.lt g hg).1; omega)
  have b0 : Blk w5 w.heap.size 25 _ := (hk5 _ (by omega)).trans a0
  have b1 : Blk w5 (w.heap.size + 1) 82 _ := (hk5 _ (by omega)).trans a1
  have b2 : Blk w5 (w.heap.size + 1 + 1) 25 _ := (hk5 _ (by omega)).trans a2
  have b3 : Blk w5 (w.heap.size + 1 + 1 + 1) 25 #[.slice (some ⟨G0, 0, none⟩) s.files.length s.files.length, .slice (some ⟨G1, 0, none⟩) s.opn.length s.opn.length, .int .i64 s.inp, .int .i64 s.out, .int .i64 s.nxt] := by
    rw [HW5.out]
    have h := a3.set_ 1 (.slice (some ⟨G1, 0, none⟩) s.opn.length s.opn.length)
    simpa using h
  go_upto_region 5 with fail
  rw [← HW5.out]
  clear p0 p1' p2' p3' p4' m0 m1
  obtain ⟨p0, p1', p2', p3', p4'⟩ := smBox' b0
  have n0 := b3.cell 1
  simp at n0
  have hwz5 : w.heap.size + 1 + 1 + 1 < w5.heap.size := b3.lt
  go_wp2_with (refine wpList_copy_all rfl (.tmp 23) (.tmp 25) 23 52 rfl i1 7 Try.underlying23 hi1 hy1 B G1 s.opn.length s.opn.length _ rfl ho5 A1 c1 (gCs s.opn) rfl HC1.out (by rw [gCs_len]) (opens_cells (HO.out.below hbw5)) (g_one _) ?_)
  intro w6 ho6 hg6
  have d1 := b1.grown hg6 (by simp; omega)
  have d2 := b2.grown hg6 (by simp; omega)
  have d3 := b3.grown hg6 (by simp; omega)
  have of6 := own_stay (w' := w6) of5 fun g hg => hg6.block g (of5.lt g hg).2 (by simp [Value.ownBlock] at hg; simp; omega)
  have hz6 := hg6.size
  have hbw6 : Below w.heap.size w w6 := hbw5.grown hg6 hbw5.size (fun k hk => by injection hk; omega)
  have hnw : Nw w6 B (w.heap.size + 1 + 1 + 1) s := ⟨by omega, by omega, _, _, d3, of6, ho6⟩
  have HNW := Lib.hid hnw
  have HB6 := Lib.hid hbw6
  have HD2 := Lib.hid d2
  have l0 := d1.cell 0
  have l1 := d1.lt
  simp at l0
  clear hnw p0 p1' p2' p3' p4' n0 hk5 ho4 ho5 ho6 of4 of5 of6 hbw3 hbw4 hbw5 hg4 hg6 a0 a1 a2 a3 b0 b1 b2 b3 e0 e1 e2 e3 d1 d2 d3 ho3 hbw6 hbW
  go_wp2_with fail
  refine (HAP.out w6 B (w.heap.size + 1 + 1 + 1) (by omega) HB6.out HNW.out).mono ?_
  rintro e w7 ⟨rfl, hn7, hb7⟩
  obtain ⟨-, hB7, v0, v1, q3, qf, qo⟩ := hn7
  obtain ⟨D0, f0, rfl, hcap0, -, -⟩ := own_files qf (by omega)
  obtain ⟨D1, f1, rfl, hcap1, -, -⟩ := own_opens qo (by omega)
  have q2 := HD2.out.below hb7 (by omega)
  have HB7 := Lib.hid (HB6.out.trans (hb7.mono (by omega)))
  have HFin : Hid (∀ W' : World, (∀ b, B ≤ b → W'.heap[b]? = w7.heap[b]?) → OwnS W' w.heap.size (smV D0 D1 f0 f1 s') s') := Lib.hid fun W' hk => by
    have h1 := own_stay (w' := W') qf fun g hg => hk g (qf.lt g hg).1
    have h2 := own_stay (w' := W') qo fun g hg => hk g (qo.lt g hg).1
    exact ⟨_, _, rfl, own_base h1 (by omega), own_base h2 (by omega)⟩
  obtain ⟨y0, y1, y2, y3, y4⟩ := smBox' q3
  have z0 := q2.cell 0
  have z1 := q2.cell 1
  have z2 := q2.cell 2
  have z3 := q2.cell 3
  have z4 := q2.cell 4
  have g0 := q2.frozen 0
  have g1 := q2.frozen 1
  have g2 := q2.frozen 2
  have g3 := q2.frozen 3
  have g4 := q2.frozen 4
  have zz := q2.lt
  simp at z0 z1 z2 z3 z4
  clear hb7 q3 q2 qf qo
  go_wp2
  refine bodyPost_ret (v := smV D0 D1 f0 f1 s') (by simp [results, Try.results44, go_sem, z0, z1, z2, z3, z4]) rfl ⟨⟨_, rfl, ?_⟩, ?_⟩
  · refine HFin.out _ fun b hb => ?_
    repeat rw [heap_setCell_other _ _ _ _ (by simp; omega)]
  · repeat refine Below.setCell ?_ (by simp; omega) _
    exact HB7.out

set_option maxHeartbeats 2000000 in
theorem with52_any (v : Value) (s s' : Sm) (p1 p2 : Nat) (w : World) (hs : SmAt w w.heap.size v s) (hf' : s'.files.length ≤ 4398046511104) (ho' : s'.opn.length ≤ 1954687338268)
    (hap : ∀ w6 B nb, w.heap.size ≤ nb → Below w.heap.size w w6 → Nw w6 B nb s → Calls Try.prog 52 #[.pointer (some ⟨nb, 0, none⟩), .pointer (some ⟨p1, 0, none⟩), .pointer (some ⟨p2, 0, none⟩)] w6 fun e w7 => e = .returned (.tuple #[]) ∧ Nw w7 B nb s' ∧ Below nb w6 w7) :
    Calls Try.prog 44 #[v, .agg #[.func (.func 52) #[] #[.pointer (some ⟨p1, 0, none⟩), .pointer (some ⟨p2, 0, none⟩)]]] w fun e w' => (∃ v', e = .returned v' ∧ OwnS w' w.heap.size v' s') ∧ Below w.heap.size w w' := by
  obtain ⟨i0, hi0, hz0, hy0, hb0⟩ := info_parts info35
  obtain ⟨i1, hi1, hz1, hy1, hb1⟩ := info_parts info52
  obtain ⟨A0, c0, A1, c1, rfl, ⟨hc0, hc1⟩, h0, h1⟩ := hs
  have hfl := h0.1.2
  have hol := h1.1.2
  have HA := Lib.hid h0
  have HO := Lib.hid h1
  have HC0 := Lib.hid hc0
  have HC1 := Lib.hid hc1
  have HAP := Lib.hid hap
  clear h0 h1 hc0 hc1 hap
  obtain ⟨W, HWd⟩ : ∃ W, Hid (W = (((w.alloc (smO A0 A1 c0 c1 s)).alloc (.cells #[.func (.func 52) #[] #[.pointer (some ⟨p1, 0, none⟩), .pointer (some ⟨p2, 0, none⟩)]] 82)).alloc smZ).alloc (smO A0 A1 c0 c1 s)) := ⟨_, rfl⟩
  have hbW : Below w.heap.size w W := by rw [HWd.out]; exact (((bAlloc _ _).alloc (by simp) _).alloc (by simp; omega) _).alloc (by simp; omega) _
  have hzW : w.heap.size + 1 + 1 + 1 + 1 ≤ W.heap.size := by rw [HWd.out]; simp
  obtain ⟨B, hB1, hB2⟩ : ∃ B, w.heap.size + 1 + 1 + 1 + 1 ≤ B ∧ B ≤ W.heap.size := ⟨_, hzW, Nat.le_refl _⟩
  have k0 : Blk W w.heap.size 25 #[.slice A0 s.files.length c0, .slice A1 s.opn.length c1, .int .i64 s.inp, .int .i64 s.out, .int .i64 s.nxt] := by
    rw [HWd.out]; exact (((Blk.new _ _ _).alloc _).alloc _).alloc _
  have k1 : Blk W (w.heap.size + 1) 82 #[.func (.func 52) #[] #[.pointer (some ⟨p1, 0, none⟩), .pointer (some ⟨p2, 0, none⟩)]] := by
    have h := ((Blk.new (w.alloc (smO A0 A1 c0 c1 s)) 82 #[.func (.func 52) #[] #[.pointer (some ⟨p1, 0, none⟩), .pointer (some ⟨p2, 0, none⟩)]]).alloc smZ).alloc (smO A0 A1 c0 c1 s)
    rw [World.size_alloc] at h
    rw [HWd.out]; exact h
  have k2 : Blk W (w.heap.size + 1 + 1) 25 #[.slice none 0 0, .slice none 0 0, .int .i64 0, .int .i64 0, .int .i64 0] := by
    have h := (Blk.new ((w.alloc (smO A0 A1 c0 c1 s)).alloc (.cells #[.func (.func 52) #[] #[.pointer (some ⟨p1, 0, none⟩), .pointer (some ⟨p2, 0, none⟩)]] 82)) 25 #[.slice none 0 0, .slice none 0 0, .int .i64 0, .int .i64 0, .int .i64 0]).alloc (smO A0 A1 c0 c1 s)
    rw [World.size_alloc, World.size_alloc] at h
    rw [HWd.out]; exact h
  have k3 : Blk W (w.heap.size + 1 + 1 + 1) 25 #[.slice A0 s.files.length c0, .slice A1 s.opn.length c1, .int .i64 s.inp, .int .i64 s.out, .int .i64 s.nxt] := by
    have h := Blk.new (((w.alloc (smO A0 A1 c0 c1 s)).alloc (.cells #[.func (.func 52) #[] #[.pointer (some ⟨p1, 0, none⟩), .pointer (some ⟨p2, 0, none⟩)]] 82)).alloc smZ) 25 #[.slice A0 s.files.length c0, .slice A1 s.opn.length c1, .int .i64 s.inp, .int .i64 s.out, .int .i64 s.nxt]
    rw [World.size_alloc, World.size_alloc, World.size_alloc] at h
    rw [HWd.out]; exact h
  have hst : ∀ (g : Fn) (ts cs : Array Value) (w : World) (a : Addr) (m : Mode), (store a (.func g ts cs) m).run Try.prog w = stored Try.prog w a (.func g ts cs) m := fun g ts cs w a m => run_store Try.prog w a _ m rfl
  go_enter Try.func44, Try.ntmps44
  go_upto_region 2 with fail
  rw [← HWd.out]
  obtain ⟨p0, p1', p2', p3', p4'⟩ := smBox' k0
  obtain ⟨n0, n1, n2, n3, n4⟩ := smBox' k3
  have nf0 := k3.frozen 0
  have nf1 := k3.frozen 1
  have hw3 : w.heap.size + 1 + 1 + 1 < W.heap.size := k3.lt
  go_wp2_with (refine wpList_make_full _ rfl (.tmp 9) (.tmp 9) 22 rfl B 35 i0 _ 2 Try.underlying22 hi0 hz0 hy0 .i64 .i64 _ _ s.files.length rfl rfl rfl rfl (by rw [hb0]; omega) (by unfold maxLen; omega) (by omega) ?_)
  intro w1 ho1 hg1
  have a0 := k0.grown hg1 (by simp)
  have a1 := k1.grown hg1 (by simp)
  have a2 := k2.grown hg1 (by simp)
  have a3 := k3.grown hg1 (by simp)
  have hbw1 : Below w.heap.size w w1 := hbW.grown hg1 hbW.size (fun k hk => by cases hk)
  have hz1' := hg1.size
  have m0 := a3.cell 0
  have m1 := a3.frozen 0
  have m2 := a3.lt
  simp at m0
  obtain ⟨G0, hG0⟩ : ∃ G0, Hid (G0 = W.heap.size) := ⟨_, rfl⟩
  rw [← hG0.out] at ho1 ⊢
  have hgl : G0 < w1.heap.size := (ho1.lt G0 rfl).2
  have hgb : B ≤ G0 := (ho1.lt G0 rfl).1
  obtain ⟨w2, HW2⟩ : ∃ w2, Hid (w2 = w1.setCell ⟨w.heap.size + 1 + 1 + 1, 0, none⟩ (.slice (some ⟨G0, 0, none⟩) s.files.length s.files.length)) := ⟨_, rfl⟩
  have hz2 : w1.heap.size = w2.heap.size := by rw [HW2.out]; simp
  have hbw2 : Below w.heap.size w w2 := by rw [HW2.out]; exact hbw1.setCell (by simp; omega) _
  have hk2 : ∀ b, b ≠ w.heap.size + 1 + 1 + 1 → w2.heap[b]? = w1.heap[b]? := fun b hb => by rw [HW2.out]; exact heap_setCell_other _ _ _ _ (by simpa using hb)
  have ho2 := own_stay (w' := w2) ho1 fun g hg => hk2 g (by have := (ho1.lt g hg).1; omega)
  have b0 : Blk w2 w.heap.size 25 _ := (hk2 _ (by omega)).trans a0
  have b1 : Blk w2 (w.heap.size + 1) 82 _ := (hk2 _ (by omega)).trans a1
  have b2 : Blk w2 (w.heap.size + 1 + 1) 25 _ := (hk2 _ (by omega)).trans a2
  have b3 : Blk w2 (w.heap.size + 1 + 1 + 1) 25 #[.slice (some ⟨G0, 0, none⟩) s.files.length s.files.length, .slice A1 s.opn.length c1, .int .i64 s.inp, .int .i64 s.out, .int .i64 s.nxt] := by
    rw [HW2.out]
    have h := a3.set_ 0 (.slice (some ⟨G0, 0, none⟩) s.files.length s.files.length)
    simpa using h
  go_upto_region 3 with fail
  rw [← HW2.out]
  clear p0 p1' p2' p3' p4' n0 n1 n2 n3 n4 nf0 nf1 m0 m1
  obtain ⟨p0, p1', p2', p3', p4'⟩ := smBox' b0
  have n0 := b3.cell 0
  simp at n0
  have hwz2 : w.heap.size + 1 + 1 + 1 < w2.heap.size := b3.lt
  go_wp2_with (refine wpList_copy_all rfl (.tmp 13) (.tmp 15) 22 35 rfl i0 2 Try.underlying22 hi0 hy0 B G0 s.files.length s.files.length _ rfl ho2 A0 c0 (fCs s.files) rfl HC0.out (by rw [fCs_len]) (files_cells (HA.out.below hbw2)) (f_one _) ?_)
  intro w3 ho3 hg3
  have e0 := b0.grown hg3 (by simp; omega)
  have e1 := b1.grown hg3 (by simp; omega)
  have e2 := b2.grown hg3 (by simp; omega)
  have e3 := b3.grown hg3 (by simp; omega)
  have hz3 := hg3.size
  have hbw3 : Below w.heap.size w w3 := hbw2.grown hg3 hbw2.size (fun k hk => by injection hk; omega)
  go_upto_region 4 with fail
  clear p0 p1' p2' p3' p4' n0 m2 hk2 ho1 ho2 hbw1 hbw2 hg1 hg3 a0 a1 a2 a3 b0 b1 b2 b3 k0 k1 k2 k3
  obtain ⟨p0, p1', p2', p3', p4'⟩ := smBox' e0
  have m0 := e3.cell 1
  have m1 := e3.frozen 1
  have m2 := e3.lt
  simp at m0
  have hwz3 : w.heap.size < w3.heap.size := e0.lt
  go_wp2_with (refine wpList_make_full _ rfl (.tmp 19) (.tmp 19) 23 rfl B 52 i1 _ 7 Try.underlying23 hi1 hz1 hy1 .i64 .i64 _ _ s.opn.length rfl rfl rfl rfl (by rw [hb1]; omega) (by unfold maxLen; omega) (by omega) ?_)
  intro w4 ho4 hg4
  have a0 := e0.grown hg4 (by simp)
  have a1 := e1.grown hg4 (by simp)
  have a2 := e2.grown hg4 (by simp)
  have a3 := e3.grown hg4 (by simp)
  have of4 := own_stay (w' := w4) ho3 fun g hg => hg4.block g (ho3.lt g hg).2 (by simp)
  have hbw4 : Below w.heap.size w w4 := hbw3.grown hg4 hbw3.size (fun k hk => by cases hk)
  have hz4' := hg4.size
  clear m0 m1 m2
  have m0 := a3.cell 1
  have m1 := a3.frozen 1
  have m2 := a3.lt
  simp at m0
  obtain ⟨G1, hG1⟩ : ∃ G1, Hid (G1 = w3.heap.size) := ⟨_, rfl⟩
  rw [← hG1.out] at ho4 ⊢
  have hgl1 : G1 < w4.heap.size := (ho4.lt G1 rfl).2
  have hgb1 : B ≤ G1 := (ho4.lt G1 rfl).1
  have hg01 : G0 < G1 := by rw [hG1.out]; exact (ho3.lt G0 rfl).2
  obtain ⟨w5, HW5⟩ : ∃ w5, Hid (w5 = w4.setCell ⟨w.heap.size + 1 + 1 + 1, 1, none⟩ (.slice (some ⟨G1, 0, none⟩) s.opn.length s.opn.length)) := ⟨_, rfl⟩
  have hz5 : w4.heap.size = w5.heap.size := by rw [HW5.out]; simp
  have hbw5 : Below w.heap.size w w5 := by rw [HW5.out]; exact hbw4.setCell (by simp; omega) _
  have hk5 : ∀ b, b ≠ w.heap.size + 1 + 1 + 1 → w5.heap[b]? = w4.heap[b]? := fun b hb => by rw [HW5.out]; exact heap_setCell_other _ _ _ _ (by simpa using hb)
  have ho5 := own_stay (w' := w5) ho4 fun g hg => hk5 g (by have := (ho4.lt g hg).1; omega)
  have of5 := own_stay (w' := w5) of4 fun g hg => hk5 g (by have := (of4.lt g hg).1; omega)
  have b0 : Blk w5 w.heap.size 25 _ := (hk5 _ (by omega)).trans a0
  have b1 : Blk w5 (w.heap.size + 1) 82 _ := (hk5 _ (by omega)).trans a1
  have b2 : Blk w5 (w.heap.size + 1 + 1) 25 _ := (hk5 _ (by omega)).trans a2
  have b3 : Blk w5 (w.heap.size + 1 + 1 + 1) 25 #[.slice (some ⟨G0, 0, none⟩) s.files.length s.files.length, .slice (some ⟨G1, 0, none⟩) s.opn.length s.opn.length, .int .i64 s.inp, .int .i64 s.out, .int .i64 s.nxt] := by
    rw [HW5.out]
    have h := a3.set_ 1 (.slice (some ⟨G1, 0, none⟩) s.opn.length s.opn.length)
    simpa using h
  go_upto_region 5 with fail
  rw [← HW5.out]
  clear p0 p1' p2' p3' p4' m0 m1
  obtain ⟨p0, p1', p2', p3', p4'⟩ := smBox' b0
  have n0 := b3.cell 1
  simp at n0
  have hwz5 : w.heap.size + 1 + 1 + 1 < w5.heap.size := b3.lt
  go_wp2_with (refine wpList_copy_all rfl (.tmp 23) (.tmp 25) 23 52 rfl i1 7 Try.underlying23 hi1 hy1 B G1 s.opn.length s.opn.length _ rfl ho5 A1 c1 (gCs s.opn) rfl HC1.out (by rw [gCs_len]) (opens_cells (HO.out.below hbw5)) (g_one _) ?_)
  intro w6 ho6 hg6
  have d1 := b1.grown hg6 (by simp; omega)
  have d2 := b2.grown hg6 (by simp; omega)
  have d3 := b3.grown hg6 (by simp; omega)
  have of6 := own_stay (w' := w6) of5 fun g hg => hg6.block g (of5.lt g hg).2 (by simp [Value.ownBlock] at hg; simp; omega)
  have hz6 := hg6.size
  have hbw6 : Below w.heap.size w w6 := hbw5.grown hg6 hbw5.size (fun k hk => by injection hk; omega)
  have hnw : Nw w6 B (w.heap.size + 1 + 1 + 1) s := ⟨by omega, by omega, _, _, d3, of6, ho6⟩
  have HNW := Lib.hid hnw
  have HB6 := Lib.hid hbw6
  have HD2 := Lib.hid d2
  have l0 := d1.cell 0
  have l1 := d1.lt
  simp at l0
  clear hnw p0 p1' p2' p3' p4' n0 hk5 ho4 ho5 ho6 of4 of5 of6 hbw3 hbw4 hbw5 hg4 hg6 a0 a1 a2 a3 b0 b1 b2 b3 e0 e1 e2 e3 d1 d2 d3 ho3 hbw6 hbW
  go_wp2_with fail
  refine (HAP.out w6 B (w.heap.size + 1 + 1 + 1) (by omega) HB6.out HNW.out).mono ?_
  rintro e w7 ⟨rfl, hn7, hb7⟩
  obtain ⟨-, hB7, v0, v1, q3, qf, qo⟩ := hn7
  obtain ⟨D0, f0, rfl, hcap0, -, -⟩ := own_files qf (by omega)
  obtain ⟨D1, f1, rfl, hcap1, -, -⟩ := own_opens qo (by omega)
  have q2 := HD2.out.below hb7 (by omega)
  have HB7 := Lib.hid (HB6.out.trans (hb7.mono (by omega)))
  have HFin : Hid (∀ W' : World, (∀ b, B ≤ b → W'.heap[b]? = w7.heap[b]?) → OwnS W' w.heap.size (smV D0 D1 f0 f1 s') s') := Lib.hid fun W' hk => by
    have h1 := own_stay (w' := W') qf fun g hg => hk g (qf.lt g hg).1
    have h2 := own_stay (w' := W') qo fun g hg => hk g (qo.lt g hg).1
    exact ⟨_, _, rfl, own_base h1 (by omega), own_base h2 (by omega)⟩
  obtain ⟨y0, y1, y2, y3, y4⟩ := smBox' q3
  have z0 := q2.cell 0
  have z1 := q2.cell 1
  have z2 := q2.cell 2
  have z3 := q2.cell 3
  have z4 := q2.cell 4
  have g0 := q2.frozen 0
  have g1 := q2.frozen 1
  have g2 := q2.frozen 2
  have g3 := q2.frozen 3
  have g4 := q2.frozen 4
  have zz := q2.lt
  simp at z0 z1 z2 z3 z4
  clear hb7 q3 q2 qf qo
  go_wp2
  refine bodyPost_ret (v := smV D0 D1 f0 f1 s') (by simp [results, Try.results44, go_sem, z0, z1, z2, z3, z4]) rfl ⟨⟨_, rfl, ?_⟩, ?_⟩
  · refine HFin.out _ fun b hb => ?_
    repeat rw [heap_setCell_other _ _ _ _ (by simp; omega)]
  · repeat refine Below.setCell ?_ (by simp; omega) _
    exact HB7.out

set_option maxHeartbeats 2000000 in
theorem with53_any (v : Value) (s s' : Sm) (p1 p2 : Nat) (w : World) (hs : SmAt w w.heap.size v s) (hf' : s'.files.length ≤ 4398046511104) (ho' : s'.opn.length ≤ 1954687338268)
    (hap : ∀ w6 B nb, w.heap.size ≤ nb → Below w.heap.size w w6 → Nw w6 B nb s → Calls Try.prog 53 #[.pointer (some ⟨nb, 0, none⟩), .pointer (some ⟨p1, 0, none⟩), .pointer (some ⟨p2, 0, none⟩)] w6 fun e w7 => e = .returned (.tuple #[]) ∧ Nw w7 B nb s' ∧ Below nb w6 w7) :
    Calls Try.prog 44 #[v, .agg #[.func (.func 53) #[] #[.pointer (some ⟨p1, 0, none⟩), .pointer (some ⟨p2, 0, none⟩)]]] w fun e w' => (∃ v', e = .returned v' ∧ OwnS w' w.heap.size v' s') ∧ Below w.heap.size w w' := by
  obtain ⟨i0, hi0, hz0, hy0, hb0⟩ := info_parts info35
  obtain ⟨i1, hi1, hz1, hy1, hb1⟩ := info_parts info52
  obtain ⟨A0, c0, A1, c1, rfl, ⟨hc0, hc1⟩, h0, h1⟩ := hs
  have hfl := h0.1.2
  have hol := h1.1.2
  have HA := Lib.hid h0
  have HO := Lib.hid h1
  have HC0 := Lib.hid hc0
  have HC1 := Lib.hid hc1
  have HAP := Lib.hid hap
  clear h0 h1 hc0 hc1 hap
  obtain ⟨W, HWd⟩ : ∃ W, Hid (W = (((w.alloc (smO A0 A1 c0 c1 s)).alloc (.cells #[.func (.func 53) #[] #[.pointer (some ⟨p1, 0, none⟩), .pointer (some ⟨p2, 0, none⟩)]] 82)).alloc smZ).alloc (smO A0 A1 c0 c1 s)) := ⟨_, rfl⟩
  have hbW : Below w.heap.size w W := by rw [HWd.out]; exact (((bAlloc _ _).alloc (by simp) _).alloc (by simp; omega) _).alloc (by simp; omega) _
  have hzW : w.heap.size + 1 + 1 + 1 + 1 ≤ W.heap.size := by rw [HWd.out]; simp
  obtain ⟨B, hB1, hB2⟩ : ∃ B, w.heap.size + 1 + 1 + 1 + 1 ≤ B ∧ B ≤ W.heap.size := ⟨_, hzW, Nat.le_refl _⟩
  have k0 : Blk W w.heap.size 25 #[.slice A0 s.files.length c0, .slice A1 s.opn.length c1, .int .i64 s.inp, .int .i64 s.out, .int .i64 s.nxt] := by
    rw [HWd.out]; exact (((Blk.new _ _ _).alloc _).alloc _).alloc _
  have k1 : Blk W (w.heap.size + 1) 82 #[.func (.func 53) #[] #[.pointer (some ⟨p1, 0, none⟩), .pointer (some ⟨p2, 0, none⟩)]] := by
    have h := ((Blk.new (w.alloc (smO A0 A1 c0 c1 s)) 82 #[.func (.func 53) #[] #[.pointer (some ⟨p1, 0, none⟩), .pointer (some ⟨p2, 0, none⟩)]]).alloc smZ).alloc (smO A0 A1 c0 c1 s)
    rw [World.size_alloc] at h
    rw [HWd.out]; exact h
  have k2 : Blk W (w.heap.size + 1 + 1) 25 #[.slice none 0 0, .slice none 0 0, .int .i64 0, .int .i64 0, .int .i64 0] := by
    have h := (Blk.new ((w.alloc (smO A0 A1 c0 c1 s)).alloc (.cells #[.func (.func 53) #[] #[.pointer (some ⟨p1, 0, none⟩), .pointer (some ⟨p2, 0, none⟩)]] 82)) 25 #[.slice none 0 0, .slice none 0 0, .int .i64 0, .int .i64 0, .int .i64 0]).alloc (smO A0 A1 c0 c1 s)
    rw [World.size_alloc, World.size_alloc] at h
    rw [HWd.out]; exact h
  have k3 : Blk W (w.heap.size + 1 + 1 + 1) 25 #[.slice A0 s.files.length c0, .slice A1 s.opn.length c1, .int .i64 s.inp, .int .i64 s.out, .int .i64 s.nxt] := by
    have h := Blk.new (((w.alloc (smO A0 A1 c0 c1 s)).alloc (.cells #[.func (.func 53) #[] #[.pointer (some ⟨p1, 0, none⟩), .pointer (some ⟨p2, 0, none⟩)]] 82)).alloc smZ) 25 #[.slice A0 s.files.length c0, .slice A1 s.opn.length c1, .int .i64 s.inp, .int .i64 s.out, .int .i64 s.nxt]
    rw [World.size_alloc, World.size_alloc, World.size_alloc] at h
    rw [HWd.out]; exact h
  have hst : ∀ (g : Fn) (ts cs : Array Value) (w : World) (a : Addr) (m : Mode), (store a (.func g ts cs) m).run Try.prog w = stored Try.prog w a (.func g ts cs) m := fun g ts cs w a m => run_store Try.prog w a _ m rfl
  go_enter Try.func44, Try.ntmps44
  go_upto_region 2 with fail
  rw [← HWd.out]
  obtain ⟨p0, p1', p2', p3', p4'⟩ := smBox' k0
  obtain ⟨n0, n1, n2, n3, n4⟩ := smBox' k3
  have nf0 := k3.frozen 0
  have nf1 := k3.frozen 1
  have hw3 : w.heap.size + 1 + 1 + 1 < W.heap.size := k3.lt
  go_wp2_with (refine wpList_make_full _ rfl (.tmp 9) (.tmp 9) 22 rfl B 35 i0 _ 2 Try.underlying22 hi0 hz0 hy0 .i64 .i64 _ _ s.files.length rfl rfl rfl rfl (by rw [hb0]; omega) (by unfold maxLen; omega) (by omega) ?_)
  intro w1 ho1 hg1
  have a0 := k0.grown hg1 (by simp)
  have a1 := k1.grown hg1 (by simp)
  have a2 := k2.grown hg1 (by simp)
  have a3 := k3.grown hg1 (by simp)
  have hbw1 : Below w.heap.size w w1 := hbW.grown hg1 hbW.size (fun k hk => by cases hk)
  have hz1' := hg1.size
  have m0 := a3.cell 0
  have m1 := a3.frozen 0
  have m2 := a3.lt
  simp at m0
  obtain ⟨G0, hG0⟩ : ∃ G0, Hid (G0 = W.heap.size) := ⟨_, rfl⟩
  rw [← hG0.out] at ho1 ⊢
  have hgl : G0 < w1.heap.size := (ho1.lt G0 rfl).2
  have hgb : B ≤ G0 := (ho1.lt G0 rfl).1
  obtain ⟨w2, HW2⟩ : ∃ w2, Hid (w2 = w1.setCell ⟨w.heap.size + 1 + 1 + 1, 0, none⟩ (.slice (some ⟨G0, 0, none⟩) s.files.length s.files.length)) := ⟨_, rfl⟩
  have hz2 : w1.heap.size = w2.heap.size := by rw [HW2.out]; simp
  have hbw2 : Below w.heap.size w w2 := by rw [HW2.out]; exact hbw1.setCell (by simp; omega) _
  have hk2 : ∀ b, b ≠ w.heap.size + 1 + 1 + 1 → w2.heap[b]? = w1.heap[b]? := fun b hb => by rw [HW2.out]; exact heap_setCell_other _ _ _ _ (by simpa using hb)
  have ho2 := own_stay (w' := w2) ho1 fun g hg => hk2 g (by have := (ho1.lt g hg).1; omega)
  have b0 : Blk w2 w.heap.size 25 _ := (hk2 _ (by omega)).trans a0
  have b1 : Blk w2 (w.heap.size + 1) 82 _ := (hk2 _ (by omega)).trans a1
  have b2 : Blk w2 (w.heap.size + 1 + 1) 25 _ := (hk2 _ (by omega)).trans a2
  have b3 : Blk w2 (w.heap.size + 1 + 1 + 1) 25 #[.slice (some ⟨G0, 0, none⟩) s.files.length s.files.length, .slice A1 s.opn.length c1, .int .i64 s.inp, .int .i64 s.out, .int .i64 s.nxt] := by
    rw [HW2.out]
    have h := a3.set_ 0 (.slice (some ⟨G0, 0, none⟩) s.files.length s.files.length)
    simpa using h
  go_upto_region 3 with fail
  rw [← HW2.out]
  clear p0 p1' p2' p3' p4' n0 n1 n2 n3 n4 nf0 nf1 m0 m1
  obtain ⟨p0, p1', p2', p3', p4'⟩ := smBox' b0
  have n0 := b3.cell 0
  simp at n0
  have hwz2 : w.heap.size + 1 + 1 + 1 < w2.heap.size := b3.lt
  go_wp2_with (refine wpList_copy_all rfl (.tmp 13) (.tmp 15) 22 35 rfl i0 2 Try.underlying22 hi0 hy0 B G0 s.files.length s.files.length _ rfl ho2 A0 c0 (fCs s.files) rfl HC0.out (by rw [fCs_len]) (files_cells (HA.out.below hbw2)) (f_one _) ?_)
  intro w3 ho3 hg3
  have e0 := b0.grown hg3 (by simp; omega)
  have e1 := b1.grown hg3 (by simp; omega)
  have e2 := b2.grown hg3 (by simp; omega)
  have e3 := b3.grown hg3 (by simp; omega)
  have hz3 := hg3.size
  have hbw3 : Below w.heap.size w w3 := hbw2.grown hg3 hbw2.size (fun k hk => by injection hk; omega)
  go_upto_region 4 with fail
  clear p0 p1' p2' p3' p4' n0 m2 hk2 ho1 ho2 hbw1 hbw2 hg1 hg3 a0 a1 a2 a3 b0 b1 b2 b3 k0 k1 k2 k3
  obtain ⟨p0, p1', p2', p3', p4'⟩ := smBox' e0
  have m0 := e3.cell 1
  have m1 := e3.frozen 1
  have m2 := e3.lt
  simp at m0
  have hwz3 : w.heap.size < w3.heap.size := e0.lt
  go_wp2_with (refine wpList_make_full _ rfl (.tmp 19) (.tmp 19) 23 rfl B 52 i1 _ 7 Try.underlying23 hi1 hz1 hy1 .i64 .i64 _ _ s.opn.length rfl rfl rfl rfl (by rw [hb1]; omega) (by unfold maxLen; omega) (by omega) ?_)
  intro w4 ho4 hg4
  have a0 := e0.grown hg4 (by simp)
  have a1 := e1.grown hg4 (by simp)
  have a2 := e2.grown hg4 (by simp)
  have a3 := e3.grown hg4 (by simp)
  have of4 := own_stay (w' := w4) ho3 fun g hg => hg4.block g (ho3.lt g hg).2 (by simp)
  have hbw4 : Below w.heap.size w w4 := hbw3.grown hg4 hbw3.size (fun k hk => by cases hk)
  have hz4' := hg4.size
  clear m0 m1 m2
  have m0 := a3.cell 1
  have m1 := a3.frozen 1
  have m2 := a3.lt
  simp at m0
  obtain ⟨G1, hG1⟩ : ∃ G1, Hid (G1 = w3.heap.size) := ⟨_, rfl⟩
  rw [← hG1.out] at ho4 ⊢
  have hgl1 : G1 < w4.heap.size := (ho4.lt G1 rfl).2
  have hgb1 : B ≤ G1 := (ho4.lt G1 rfl).1
  have hg01 : G0 < G1 := by rw [hG1.out]; exact (ho3.lt G0 rfl).2
  obtain ⟨w5, HW5⟩ : ∃ w5, Hid (w5 = w4.setCell ⟨w.heap.size + 1 + 1 + 1, 1, none⟩ (.slice (some ⟨G1, 0, none⟩) s.opn.length s.opn.length)) := ⟨_, rfl⟩
  have hz5 : w4.heap.size = w5.heap.size := by rw [HW5.out]; simp
  have hbw5 : Below w.heap.size w w5 := by rw [HW5.out]; exact hbw4.setCell (by simp; omega) _
  have hk5 : ∀ b, b ≠ w.heap.size + 1 + 1 + 1 → w5.heap[b]? = w4.heap[b]? := fun b hb => by rw [HW5.out]; exact heap_setCell_other _ _ _ _ (by simpa using hb)
  have ho5 := own_stay (w' := w5) ho4 fun g hg => hk5 g (by have := (ho4.lt g hg).1; omega)
  have of5 := own_stay (w' := w5) of4 fun g hg => hk5 g (by have := (of4.lt g hg).1; omega)
  have b0 : Blk w5 w.heap.size 25 _ := (hk5 _ (by omega)).trans a0
  have b1 : Blk w5 (w.heap.size + 1) 82 _ := (hk5 _ (by omega)).trans a1
  have b2 : Blk w5 (w.heap.size + 1 + 1) 25 _ := (hk5 _ (by omega)).trans a2
  have b3 : Blk w5 (w.heap.size + 1 + 1 + 1) 25 #[.slice (some ⟨G0, 0, none⟩) s.files.length s.files.length, .slice (some ⟨G1, 0, none⟩) s.opn.length s.opn.length, .int .i64 s.inp, .int .i64 s.out, .int .i64 s.nxt] := by
    rw [HW5.out]
    have h := a3.set_ 1 (.slice (some ⟨G1, 0, none⟩) s.opn.length s.opn.length)
    simpa using h
  go_upto_region 5 with fail
  rw [← HW5.out]
  clear p0 p1' p2' p3' p4' m0 m1
  obtain ⟨p0, p1', p2', p3', p4'⟩ := smBox' b0
  have n0 := b3.cell 1
  simp at n0
  have hwz5 : w.heap.size + 1 + 1 + 1 < w5.heap.size := b3.lt
  go_wp2_with (refine wpList_copy_all rfl (.tmp 23) (.tmp 25) 23 52 rfl i1 7 Try.underlying23 hi1 hy1 B G1 s.opn.length s.opn.length _ rfl ho5 A1 c1 (gCs s.opn) rfl HC1.out (by rw [gCs_len]) (opens_cells (HO.out.below hbw5)) (g_one _) ?_)
  intro w6 ho6 hg6
  have d1 := b1.grown hg6 (by simp; omega)
  have d2 := b2.grown hg6 (by simp; omega)
  have d3 := b3.grown hg6 (by simp; omega)
  have of6 := own_stay (w' := w6) of5 fun g hg => hg6.block g (of5.lt g hg).2 (by simp [Value.ownBlock] at hg; simp; omega)
  have hz6 := hg6.size
  have hbw6 : Below w.heap.size w w6 := hbw5.grown hg6 hbw5.size (fun k hk => by injection hk; omega)
  have hnw : Nw w6 B (w.heap.size + 1 + 1 + 1) s := ⟨by omega, by omega, _, _, d3, of6, ho6⟩
  have HNW := Lib.hid hnw
  have HB6 := Lib.hid hbw6
  have HD2 := Lib.hid d2
  have l0 := d1.cell 0
  have l1 := d1.lt
  simp at l0
  clear hnw p0 p1' p2' p3' p4' n0 hk5 ho4 ho5 ho6 of4 of5 of6 hbw3 hbw4 hbw5 hg4 hg6 a0 a1 a2 a3 b0 b1 b2 b3 e0 e1 e2 e3 d1 d2 d3 ho3 hbw6 hbW
  go_wp2_with fail
  refine (HAP.out w6 B (w.heap.size + 1 + 1 + 1) (by omega) HB6.out HNW.out).mono ?_
  rintro e w7 ⟨rfl, hn7, hb7⟩
  obtain ⟨-, hB7, v0, v1, q3, qf, qo⟩ := hn7
  obtain ⟨D0, f0, rfl, hcap0, -, -⟩ := own_files qf (by omega)
  obtain ⟨D1, f1, rfl, hcap1, -, -⟩ := own_opens qo (by omega)
  have q2 := HD2.out.below hb7 (by omega)
  have HB7 := Lib.hid (HB6.out.trans (hb7.mono (by omega)))
  have HFin : Hid (∀ W' : World, (∀ b, B ≤ b → W'.heap[b]? = w7.heap[b]?) → OwnS W' w.heap.size (smV D0 D1 f0 f1 s') s') := Lib.hid fun W' hk => by
    have h1 := own_stay (w' := W') qf fun g hg => hk g (qf.lt g hg).1
    have h2 := own_stay (w' := W') qo fun g hg => hk g (qo.lt g hg).1
    exact ⟨_, _, rfl, own_base h1 (by omega), own_base h2 (by omega)⟩
  obtain ⟨y0, y1, y2, y3, y4⟩ := smBox' q3
  have z0 := q2.cell 0
  have z1 := q2.cell 1
  have z2 := q2.cell 2
  have z3 := q2.cell 3
  have z4 := q2.cell 4
  have g0 := q2.frozen 0
  have g1 := q2.frozen 1
  have g2 := q2.frozen 2
  have g3 := q2.frozen 3
  have g4 := q2.frozen 4
  have zz := q2.lt
  simp at z0 z1 z2 z3 z4
  clear hb7 q3 q2 qf qo
  go_wp2
  refine bodyPost_ret (v := smV D0 D1 f0 f1 s') (by simp [results, Try.results44, go_sem, z0, z1, z2, z3, z4]) rfl ⟨⟨_, rfl, ?_⟩, ?_⟩
  · refine HFin.out _ fun b hb => ?_
    repeat rw [heap_setCell_other _ _ _ _ (by simp; omega)]
  · repeat refine Below.setCell ?_ (by simp; omega) _
    exact HB7.out

set_option maxHeartbeats 2000000 in
theorem with73_any (v : Value) (s s' : Sm) (p1 p2 : Nat) (w : World) (hs : SmAt w w.heap.size v s) (hf' : s'.files.length ≤ 4398046511104) (ho' : s'.opn.length ≤ 1954687338268)
    (hap : ∀ w6 B nb, w.heap.size ≤ nb → Below w.heap.size w w6 → Nw w6 B nb s → Calls Try.prog 73 #[.pointer (some ⟨nb, 0, none⟩), .pointer (some ⟨p1, 0, none⟩), .pointer (some ⟨p2, 0, none⟩)] w6 fun e w7 => e = .returned (.tuple #[]) ∧ Nw w7 B nb s' ∧ Below nb w6 w7) :
    Calls Try.prog 44 #[v, .agg #[.func (.func 73) #[] #[.pointer (some ⟨p1, 0, none⟩), .pointer (some ⟨p2, 0, none⟩)]]] w fun e w' => (∃ v', e = .returned v' ∧ OwnS w' w.heap.size v' s') ∧ Below w.heap.size w w' := by
  obtain ⟨i0, hi0, hz0, hy0, hb0⟩ := info_parts info35
  obtain ⟨i1, hi1, hz1, hy1, hb1⟩ := info_parts info52
  obtain ⟨A0, c0, A1, c1, rfl, ⟨hc0, hc1⟩, h0, h1⟩ := hs
  have hfl := h0.1.2
  have hol := h1.1.2
  have HA := Lib.hid h0
  have HO := Lib.hid h1
  have HC0 := Lib.hid hc0
  have HC1 := Lib.hid hc1
  have HAP := Lib.hid hap
  clear h0 h1 hc0 hc1 hap
  obtain ⟨W, HWd⟩ : ∃ W, Hid (W = (((w.alloc (smO A0 A1 c0 c1 s)).alloc (.cells #[.func (.func 73) #[] #[.pointer (some ⟨p1, 0, none⟩), .pointer (some ⟨p2, 0, none⟩)]] 82)).alloc smZ).alloc (smO A0 A1 c0 c1 s)) := ⟨_, rfl⟩
  have hbW : Below w.heap.size w W := by rw [HWd.out]; exact (((bAlloc _ _).alloc (by simp) _).alloc (by simp; omega) _).alloc (by simp; omega) _
  have hzW : w.heap.size + 1 + 1 + 1 + 1 ≤ W.heap.size := by rw [HWd.out]; simp
  obtain ⟨B, hB1, hB2⟩ : ∃ B, w.heap.size + 1 + 1 + 1 + 1 ≤ B ∧ B ≤ W.heap.size := ⟨_, hzW, Nat.le_refl _⟩
  have k0 : Blk W w.heap.size 25 #[.slice A0 s.files.length c0, .slice A1 s.opn.length c1, .int .i64 s.inp, .int .i64 s.out, .int .i64 s.nxt] := by
    rw [HWd.out]; exact (((Blk.new _ _ _).alloc _).alloc _).alloc _
  have k1 : Blk W (w.heap.size + 1) 82 #[.func (.func 73) #[] #[.pointer (some ⟨p1, 0, none⟩), .pointer (some ⟨p2, 0, none⟩)]] := by
    have h := ((Blk.new (w.alloc (smO A0 A1 c0 c1 s)) 82 #[.func (.func 73) #[] #[.pointer (some ⟨p1, 0, none⟩), .pointer (some ⟨p2, 0, none⟩)]]).alloc smZ).alloc (smO A0 A1 c0 c1 s)
    rw [World.size_alloc] at h
    rw [HWd.out]; exact h
  have k2 : Blk W (w.heap.size + 1 + 1) 25 #[.slice none 0 0, .slice none 0 0, .int .i64 0, .int .i64 0, .int .i64 0] := by
    have h := (Blk.new ((w.alloc (smO A0 A1 c0 c1 s)).alloc (.cells #[.func (.func 73) #[] #[.pointer (some ⟨p1, 0, none⟩), .pointer (some ⟨p2, 0, none⟩)]] 82)) 25 #[.slice none 0 0, .slice none 0 0, .int .i64 0, .int .i64 0, .int .i64 0]).alloc (smO A0 A1 c0 c1 s)
    rw [World.size_alloc, World.size_alloc] at h
    rw [HWd.out]; exact h
  have k3 : Blk W (w.heap.size + 1 + 1 + 1) 25 #[.slice A0 s.files.length c0, .slice A1 s.opn.length c1, .int .i64 s.inp, .int .i64 s.out, .int .i64 s.nxt] := by
    have h := Blk.new (((w.alloc (smO A0 A1 c0 c1 s)).alloc (.cells #[.func (.func 73) #[] #[.pointer (some ⟨p1, 0, none⟩), .pointer (some ⟨p2, 0, none⟩)]] 82)).alloc smZ) 25 #[.slice A0 s.files.length c0, .slice A1 s.opn.length c1, .int .i64 s.inp, .int .i64 s.out, .int .i64 s.nxt]
    rw [World.size_alloc, World.size_alloc, World.size_alloc] at h
    rw [HWd.out]; exact h
  have hst : ∀ (g : Fn) (ts cs : Array Value) (w : World) (a : Addr) (m : Mode), (store a (.func g ts cs) m).run Try.prog w = stored Try.prog w a (.func g ts cs) m := fun g ts cs w a m => run_store Try.prog w a _ m rfl
  go_enter Try.func44, Try.ntmps44
  go_upto_region 2 with fail
  rw [← HWd.out]
  obtain ⟨p0, p1', p2', p3', p4'⟩ := smBox' k0
  obtain ⟨n0, n1, n2, n3, n4⟩ := smBox' k3
  have nf0 := k3.frozen 0
  have nf1 := k3.frozen 1
  have hw3 : w.heap.size + 1 + 1 + 1 < W.heap.size := k3.lt
  go_wp2_with (refine wpList_make_full _ rfl (.tmp 9) (.tmp 9) 22 rfl B 35 i0 _ 2 Try.underlying22 hi0 hz0 hy0 .i64 .i64 _ _ s.files.length rfl rfl rfl rfl (by rw [hb0]; omega) (by unfold maxLen; omega) (by omega) ?_)
  intro w1 ho1 hg1
  have a0 := k0.grown hg1 (by simp)
  have a1 := k1.grown hg1 (by simp)
  have a2 := k2.grown hg1 (by simp)
  have a3 := k3.grown hg1 (by simp)
  have hbw1 : Below w.heap.size w w1 := hbW.grown hg1 hbW.size (fun k hk => by cases hk)
  have hz1' := hg1.size
  have m0 := a3.cell 0
  have m1 := a3.frozen 0
  have m2 := a3.lt
  simp at m0
  obtain ⟨G0, hG0⟩ : ∃ G0, Hid (G0 = W.heap.size) := ⟨_, rfl⟩
  rw [← hG0.out] at ho1 ⊢
  have hgl : G0 < w1.heap.size := (ho1.lt G0 rfl).2
  have hgb : B ≤ G0 := (ho1.lt G0 rfl).1
  obtain ⟨w2, HW2⟩ : ∃ w2, Hid (w2 = w1.setCell ⟨w.heap.size + 1 + 1 + 1, 0, none⟩ (.slice (some ⟨G0, 0, none⟩) s.files.length s.files.length)) := ⟨_, rfl⟩
  have hz2 : w1.heap.size = w2.heap.size := by rw [HW2.out]; simp
  have hbw2 : Below w.heap.size w w2 := by rw [HW2.out]; exact hbw1.setCell (by simp; omega) _
  have hk2 : ∀ b, b ≠ w.heap.size + 1 + 1 + 1 → w2.heap[b]? = w1.heap[b]? := fun b hb => by rw [HW2.out]; exact heap_setCell_other _ _ _ _ (by simpa using hb)
  have ho2 := own_stay (w' := w2) ho1 fun g hg => hk2 g (by have := (ho1.lt g hg).1; omega)
  have b0 : Blk w2 w.heap.size 25 _ := (hk2 _ (by omega)).trans a0
  have b1 : Blk w2 (w.heap.size + 1) 82 _ := (hk2 _ (by omega)).trans a1
  have b2 : Blk w2 (w.heap.size + 1 + 1) 25 _ := (hk2 _ (by omega)).trans a2
  have b3 : Blk w2 (w.heap.size + 1 + 1 + 1) 25 #[.slice (some ⟨G0, 0, none⟩) s.files.length s.files.length, .slice A1 s.opn.length c1, .int .i64 s.inp, .int .i64 s.out, .int .i64 s.nxt] := by
    rw [HW2.out]
    have h := a3.set_ 0 (.slice (some ⟨G0, 0, none⟩) s.files.length s.files.length)
    simpa using h
  go_upto_region 3 with fail
  rw [← HW2.out]
  clear p0 p1' p2' p3' p4' n0 n1 n2 n3 n4 nf0 nf1 m0 m1
  obtain ⟨p0, p1', p2', p3', p4'⟩ := smBox' b0
  have n0 := b3.cell 0
  simp at n0
  have hwz2 : w.heap.size + 1 + 1 + 1 < w2.heap.size := b3.lt
  go_wp2_with (refine wpList_copy_all rfl (.tmp 13) (.tmp 15) 22 35 rfl i0 2 Try.underlying22 hi0 hy0 B G0 s.files.length s.files.length _ rfl ho2 A0 c0 (fCs s.files) rfl HC0.out (by rw [fCs_len]) (files_cells (HA.out.below hbw2)) (f_one _) ?_)
  intro w3 ho3 hg3
  have e0 := b0.grown hg3 (by simp; omega)
  have e1 := b1.grown hg3 (by simp; omega)
  have e2 := b2.grown hg3 (by simp; omega)
  have e3 := b3.grown hg3 (by simp; omega)
  have hz3 := hg3.size
  have hbw3 : Below w.heap.size w w3 := hbw2.grown hg3 hbw2.size (fun k hk => by injection hk; omega)
  go_upto_region 4 with fail
  clear p0 p1' p2' p3' p4' n0 m2 hk2 ho1 ho2 hbw1 hbw2 hg1 hg3 a0 a1 a2 a3 b0 b1 b2 b3 k0 k1 k2 k3
  obtain ⟨p0, p1', p2', p3', p4'⟩ := smBox' e0
  have m0 := e3.cell 1
  have m1 := e3.frozen 1
  have m2 := e3.lt
  simp at m0
  have hwz3 : w.heap.size < w3.heap.size := e0.lt
  go_wp2_with (refine wpList_make_full _ rfl (.tmp 19) (.tmp 19) 23 rfl B 52 i1 _ 7 Try.underlying23 hi1 hz1 hy1 .i64 .i64 _ _ s.opn.length rfl rfl rfl rfl (by rw [hb1]; omega) (by unfold maxLen; omega) (by omega) ?_)
  intro w4 ho4 hg4
  have a0 := e0.grown hg4 (by simp)
  have a1 := e1.grown hg4 (by simp)
  have a2 := e2.grown hg4 (by simp)
  have a3 := e3.grown hg4 (by simp)
  have of4 := own_stay (w' := w4) ho3 fun g hg => hg4.block g (ho3.lt g hg).2 (by simp)
  have hbw4 : Below w.heap.size w w4 := hbw3.grown hg4 hbw3.size (fun k hk => by cases hk)
  have hz4' := hg4.size
  clear m0 m1 m2
  have m0 := a3.cell 1
  have m1 := a3.frozen 1
  have m2 := a3.lt
  simp at m0
  obtain ⟨G1, hG1⟩ : ∃ G1, Hid (G1 = w3.heap.size) := ⟨_, rfl⟩
  rw [← hG1.out] at ho4 ⊢
  have hgl1 : G1 < w4.heap.size := (ho4.lt G1 rfl).2
  have hgb1 : B ≤ G1 := (ho4.lt G1 rfl).1
  have hg01 : G0 < G1 := by rw [hG1.out]; exact (ho3.lt G0 rfl).2
  obtain ⟨w5, HW5⟩ : ∃ w5, Hid (w5 = w4.setCell ⟨w.heap.size + 1 + 1 + 1, 1, none⟩ (.slice (some ⟨G1, 0, none⟩) s.opn.length s.opn.length)) := ⟨_, rfl⟩
  have hz5 : w4.heap.size = w5.heap.size := by rw [HW5.out]; simp
  have hbw5 : Below w.heap.size w w5 := by rw [HW5.out]; exact hbw4.setCell (by simp; omega) _
  have hk5 : ∀ b, b ≠ w.heap.size + 1 + 1 + 1 → w5.heap[b]? = w4.heap[b]? := fun b hb => by rw [HW5.out]; exact heap_setCell_other _ _ _ _ (by simpa using hb)
  have ho5 := own_stay (w' := w5) ho4 fun g hg => hk5 g (by have := (ho4.lt g hg).1; omega)
  have of5 := own_stay (w' := w5) of4 fun g hg => hk5 g (by have := (of4.lt g hg).1; omega)
  have b0 : Blk w5 w.heap.size 25 _ := (hk5 _ (by omega)).trans a0
  have b1 : Blk w5 (w.heap.size + 1) 82 _ := (hk5 _ (by omega)).trans a1
  have b2 : Blk w5 (w.heap.size + 1 + 1) 25 _ := (hk5 _ (by omega)).trans a2
  have b3 : Blk w5 (w.heap.size + 1 + 1 + 1) 25 #[.slice (some ⟨G0, 0, none⟩) s.files.length s.files.length, .slice (some ⟨G1, 0, none⟩) s.opn.length s.opn.length, .int .i64 s.inp, .int .i64 s.out, .int .i64 s.nxt] := by
    rw [HW5.out]
    have h := a3.set_ 1 (.slice (some ⟨G1, 0, none⟩) s.opn.length s.opn.length)
    simpa using h
  go_upto_region 5 with fail
  rw [← HW5.out]
  clear p0 p1' p2' p3' p4' m0 m1
  obtain ⟨p0, p1', p2', p3', p4'⟩ := smBox' b0
  have n0 := b3.cell 1
  simp at n0
  have hwz5 : w.heap.size + 1 + 1 + 1 < w5.heap.size := b3.lt
  go_wp2_with (refine wpList_copy_all rfl (.tmp 23) (.tmp 25) 23 52 rfl i1 7 Try.underlying23 hi1 hy1 B G1 s.opn.length s.opn.length _ rfl ho5 A1 c1 (gCs s.opn) rfl HC1.out (by rw [gCs_len]) (opens_cells (HO.out.below hbw5)) (g_one _) ?_)
  intro w6 ho6 hg6
  have d1 := b1.grown hg6 (by simp; omega)
  have d2 := b2.grown hg6 (by simp; omega)
  have d3 := b3.grown hg6 (by simp; omega)
  have of6 := own_stay (w' := w6) of5 fun g hg => hg6.block g (of5.lt g hg).2 (by simp [Value.ownBlock] at hg; simp; omega)
  have hz6 := hg6.size
  have hbw6 : Below w.heap.size w w6 := hbw5.grown hg6 hbw5.size (fun k hk => by injection hk; omega)
  have hnw : Nw w6 B (w.heap.size + 1 + 1 + 1) s := ⟨by omega, by omega, _, _, d3, of6, ho6⟩
  have HNW := Lib.hid hnw
  have HB6 := Lib.hid hbw6
  have HD2 := Lib.hid d2
  have l0 := d1.cell 0
  have l1 := d1.lt
  simp at l0
  clear hnw p0 p1' p2' p3' p4' n0 hk5 ho4 ho5 ho6 of4 of5 of6 hbw3 hbw4 hbw5 hg4 hg6 a0 a1 a2 a3 b0 b1 b2 b3 e0 e1 e2 e3 d1 d2 d3 ho3 hbw6 hbW
  go_wp2_with fail
  refine (HAP.out w6 B (w.heap.size + 1 + 1 + 1) (by omega) HB6.out HNW.out).mono ?_
  rintro e w7 ⟨rfl, hn7, hb7⟩
  obtain ⟨-, hB7, v0, v1, q3, qf, qo⟩ := hn7
  obtain ⟨D0, f0, rfl, hcap0, -, -⟩ := own_files qf (by omega)
  obtain ⟨D1, f1, rfl, hcap1, -, -⟩ := own_opens qo (by omega)
  have q2 := HD2.out.below hb7 (by omega)
  have HB7 := Lib.hid (HB6.out.trans (hb7.mono (by omega)))
  have HFin : Hid (∀ W' : World, (∀ b, B ≤ b → W'.heap[b]? = w7.heap[b]?) → OwnS W' w.heap.size (smV D0 D1 f0 f1 s') s') := Lib.hid fun W' hk => by
    have h1 := own_stay (w' := W') qf fun g hg => hk g (qf.lt g hg).1
    have h2 := own_stay (w' := W') qo fun g hg => hk g (qo.lt g hg).1
    exact ⟨_, _, rfl, own_base h1 (by omega), own_base h2 (by omega)⟩
  obtain ⟨y0, y1, y2, y3, y4⟩ := smBox' q3
  have z0 := q2.cell 0
  have z1 := q2.cell 1
  have z2 := q2.cell 2
  have z3 := q2.cell 3
  have z4 := q2.cell 4
  have g0 := q2.frozen 0
  have g1 := q2.frozen 1
  have g2 := q2.frozen 2
  have g3 := q2.frozen 3
  have g4 := q2.frozen 4
  have zz := q2.lt
  simp at z0 z1 z2 z3 z4
  clear hb7 q3 q2 qf qo
  go_wp2
  refine bodyPost_ret (v := smV D0 D1 f0 f1 s') (by simp [results, Try.results44, go_sem, z0, z1, z2, z3, z4]) rfl ⟨⟨_, rfl, ?_⟩, ?_⟩
  · refine HFin.out _ fun b hb => ?_
    repeat rw [heap_setCell_other _ _ _ _ (by simp; omega)]
  · repeat refine Below.setCell ?_ (by simp; omega) _
    exact HB7.out

set_option maxHeartbeats 2000000 in
theorem with45_any (v : Value) (s s' : Sm) (p1 p2 p3 p4 : Nat) (w : World) (hs : SmAt w w.heap.size v s) (hf' : s'.files.length ≤ 4398046511104) (ho' : s'.opn.length ≤ 1954687338268)
    (hap : ∀ w6 B nb, w.heap.size ≤ nb → Below w.heap.size w w6 → Nw w6 B nb s → Calls Try.prog 45 #[.pointer (some ⟨nb, 0, none⟩), .pointer (some ⟨p1, 0, none⟩), .pointer (some ⟨p2, 0, none⟩), .pointer (some ⟨p3, 0, none⟩), .pointer (some ⟨p4, 0, none⟩)] w6 fun e w7 => e = .returned (.tuple #[]) ∧ Nw w7 B nb s' ∧ Below nb w6 w7) :
    Calls Try.prog 44 #[v, .agg #[.func (.func 45) #[] #[.pointer (some ⟨p1, 0, none⟩), .pointer (some ⟨p2, 0, none⟩), .pointer (some ⟨p3, 0, none⟩), .pointer (some ⟨p4, 0, none⟩)]]] w fun e w' => (∃ v', e = .returned v' ∧ OwnS w' w.heap.size v' s') ∧ Below w.heap.size w w' := by
  obtain ⟨i0, hi0, hz0, hy0, hb0⟩ := info_parts info35
  obtain ⟨i1, hi1, hz1, hy1, hb1⟩ := info_parts info52
  obtain ⟨A0, c0, A1, c1, rfl, ⟨hc0, hc1⟩, h0, h1⟩ := hs
  have hfl := h0.1.2
  have hol := h1.1.2
  have HA := Lib.hid h0
  have HO := Lib.hid h1
  have HC0 := Lib.hid hc0
  have HC1 := Lib.hid hc1
  have HAP := Lib.hid hap
  clear h0 h1 hc0 hc1 hap
  obtain ⟨W, HWd⟩ : ∃ W, Hid (W = (((w.alloc (smO A0 A1 c0 c1 s)).alloc (.cells #[.func (.func 45) #[] #[.pointer (some ⟨p1, 0, none⟩), .pointer (some ⟨p2, 0, none⟩), .pointer (some ⟨p3, 0, none⟩), .pointer (some ⟨p4, 0, none⟩)]] 82)).alloc smZ).alloc (smO A0 A1 c0 c1 s)) := ⟨_, rfl⟩
  have hbW : Below w.heap.size w W := by rw [HWd.out]; exact (((bAlloc _ _).alloc (by simp) _).alloc (by simp; omega) _).alloc (by simp; omega) _
  have hzW : w.heap.size + 1 + 1 + 1 + 1 ≤ W.heap.size := by rw [HWd.out]; simp
  obtain ⟨B, hB1, hB2⟩ : ∃ B, w.heap.size + 1 + 1 + 1 + 1 ≤ B ∧ B ≤ W.heap.size := ⟨_, hzW, Nat.le_refl _⟩
  have k0 : Blk W w.heap.size 25 #[.slice A0 s.files.length c0, .slice A1 s.opn.length c1, .int .i64 s.inp, .int .i64 s.out, .int .i64 s.nxt] := by
    rw [HWd.out]; exact (((Blk.new _ _ _).alloc _).alloc _).alloc _
  have k1 : Blk W (w.heap.size + 1) 82 #[.func (.func 45) #[] #[.pointer (some ⟨p1, 0, none⟩), .pointer (some ⟨p2, 0, none⟩), .pointer (some ⟨p3, 0, none⟩), .pointer (some ⟨p4, 0, none⟩)]] := by
    have h := ((Blk.new (w.alloc (smO A0 A1 c0 c1 s)) 82 #[.func (.func 45) #[] #[.pointer (some ⟨p1, 0, none⟩), .pointer (some ⟨p2, 0, none⟩), .pointer (some ⟨p3, 0, none⟩), .pointer (some ⟨p4, 0, none⟩)]]).alloc smZ).alloc (smO A0 A1 c0 c1 s)
    rw [World.size_alloc] at h
    rw [HWd.out]; exact h
  have k2 : Blk W (w.heap.size + 1 + 1) 25 #[.slice none 0 0, .slice none 0 0, .int .i64 0, .int .i64 0, .int .i64 0] := by
    have h := (Blk.new ((w.alloc (smO A0 A1 c0 c1 s)).alloc (.cells #[.func (.func 45) #[] #[.pointer (some ⟨p1, 0, none⟩), .pointer (some ⟨p2, 0, none⟩), .pointer (some ⟨p3, 0, none⟩), .pointer (some ⟨p4, 0, none⟩)]] 82)) 25 #[.slice none 0 0, .slice none 0 0, .int .i64 0, .int .i64 0, .int .i64 0]).alloc (smO A0 A1 c0 c1 s)
    rw [World.size_alloc, World.size_alloc] at h
    rw [HWd.out]; exact h
  have k3 : Blk W (w.heap.size + 1 + 1 + 1) 25 #[.slice A0 s.files.length c0, .slice A1 s.opn.length c1, .int .i64 s.inp, .int .i64 s.out, .int .i64 s.nxt] := by
    have h := Blk.new (((w.alloc (smO A0 A1 c0 c1 s)).alloc (.cells #[.func (.func 45) #[] #[.pointer (some ⟨p1, 0, none⟩), .pointer (some ⟨p2, 0, none⟩), .pointer (some ⟨p3, 0, none⟩), .pointer (some ⟨p4, 0, none⟩)]] 82)).alloc smZ) 25 #[.slice A0 s.files.length c0, .slice A1 s.opn.length c1, .int .i64 s.inp, .int .i64 s.out, .int .i64 s.nxt]
    rw [World.size_alloc, World.size_alloc, World.size_alloc] at h
    rw [HWd.out]; exact h
  have hst : ∀ (g : Fn) (ts cs : Array Value) (w : World) (a : Addr) (m : Mode), (store a (.func g ts cs) m).run Try.prog w = stored Try.prog w a (.func g ts cs) m := fun g ts cs w a m => run_store Try.prog w a _ m rfl
  go_enter Try.func44, Try.ntmps44
  go_upto_region 2 with fail
  rw [← HWd.out]
  obtain ⟨p0, p1', p2', p3', p4'⟩ := smBox' k0
  obtain ⟨n0, n1, n2, n3, n4⟩ := smBox' k3
  have nf0 := k3.frozen 0
  have nf1 := k3.frozen 1
  have hw3 : w.heap.size + 1 + 1 + 1 < W.heap.size := k3.lt
  go_wp2_with (refine wpList_make_full _ rfl (.tmp 9) (.tmp 9) 22 rfl B 35 i0 _ 2 Try.underlying22 hi0 hz0 hy0 .i64 .i64 _ _ s.files.length rfl rfl rfl rfl (by rw [hb0]; omega) (by unfold maxLen; omega) (by omega) ?_)
  intro w1 ho1 hg1
  have a0 := k0.grown hg1 (by simp)
  have a1 := k1.grown hg1 (by simp)
  have a2 := k2.grown hg1 (by simp)
  have a3 := k3.grown hg1 (by simp)
  have hbw1 : Below w.heap.size w w1 := hbW.grown hg1 hbW.size (fun k hk => by cases hk)
  have hz1' := hg1.size
  have m0 := a3.cell 0
  have m1 := a3.frozen 0
  have m2 := a3.lt
  simp at m0
  obtain ⟨G0, hG0⟩ : ∃ G0, Hid (G0 = W.heap.size) := ⟨_, rfl⟩
  rw [← hG0.out] at ho1 ⊢
  have hgl : G0 < w1.heap.size := (ho1.lt G0 rfl).2
  have hgb : B ≤ G0 := (ho1.lt G0 rfl).1
  obtain ⟨w2, HW2⟩ : ∃ w2, Hid (w2 = w1.setCell ⟨w.heap.size + 1 + 1 + 1, 0, none⟩ (.slice (some ⟨G0, 0, none⟩) s.files.length s.files.length)) := ⟨_, rfl⟩
  have hz2 : w1.heap.size = w2.heap.size := by rw [HW2.out]; simp
  have hbw2 : Below w.heap.size w w2 := by rw [HW2.out]; exact hbw1.setCell (by simp; omega) _
  have hk2 : ∀ b, b ≠ w.heap.size + 1 + 1 + 1 → w2.heap[b]? = w1.heap[b]? := fun b hb => by rw [HW2.out]; exact heap_setCell_other _ _ _ _ (by simpa using hb)
  have ho2 := own_stay (w' := w2) ho1 fun g hg => hk2 g (by have := (ho1.lt g hg).1; omega)
  have b0 : Blk w2 w.heap.size 25 _ := (hk2 _ (by omega)).trans a0
  have b1 : Blk w2 (w.heap.size + 1) 82 _ := (hk2 _ (by omega)).trans a1
  have b2 : Blk w2 (w.heap.size + 1 + 1) 25 _ := (hk2 _ (by omega)).trans a2
  have b3 : Blk w2 (w.heap.size + 1 + 1 + 1) 25 #[.slice (some ⟨G0, 0, none⟩) s.files.length s.files.length, .slice A1 s.opn.length c1, .int .i64 s.inp, .int .i64 s.out, .int .i64 s.nxt] := by
    rw [HW2.out]
    have h := a3.set_ 0 (.slice (some ⟨G0, 0, none⟩) s.files.length s.files.length)
    simpa using h
  go_upto_region 3 with fail
  rw [← HW2.out]
  clear p0 p1' p2' p3' p4' n0 n1 n2 n3 n4 nf0 nf1 m0 m1
  obtain ⟨p0, p1', p2', p3', p4'⟩ := smBox' b0
  have n0 := b3.cell 0
  simp at n0
  have hwz2 : w.heap.size + 1 + 1 + 1 < w2.heap.size := b3.lt
  go_wp2_with (refine wpList_copy_all rfl (.tmp 13) (.tmp 15) 22 35 rfl i0 2 Try.underlying22 hi0 hy0 B G0 s.files.length s.files.length _ rfl ho2 A0 c0 (fCs s.files) rfl HC0.out (by rw [fCs_len]) (files_cells (HA.out.below hbw2)) (f_one _) ?_)
  intro w3 ho3 hg3
  have e0 := b0.grown hg3 (by simp; omega)
  have e1 := b1.grown hg3 (by simp; omega)
  have e2 := b2.grown hg3 (by simp; omega)
  have e3 := b3.grown hg3 (by simp; omega)
  have hz3 := hg3.size
  have hbw3 : Below w.heap.size w w3 := hbw2.grown hg3 hbw2.size (fun k hk => by injection hk; omega)
  go_upto_region 4 with fail
  clear p0 p1' p2' p3' p4' n0 m2 hk2 ho1 ho2 hbw1 hbw2 hg1 hg3 a0 a1 a2 a3 b0 b1 b2 b3 k0 k1 k2 k3
  obtain ⟨p0, p1', p2', p3', p4'⟩ := smBox' e0
  have m0 := e3.cell 1
  have m1 := e3.frozen 1
  have m2 := e3.lt
  simp at m0
  have hwz3 : w.heap.size < w3.heap.size := e0.lt
  go_wp2_with (refine wpList_make_full _ rfl (.tmp 19) (.tmp 19) 23 rfl B 52 i1 _ 7 Try.underlying23 hi1 hz1 hy1 .i64 .i64 _ _ s.opn.length rfl rfl rfl rfl (by rw [hb1]; omega) (by unfold maxLen; omega) (by omega) ?_)
  intro w4 ho4 hg4
  have a0 := e0.grown hg4 (by simp)
  have a1 := e1.grown hg4 (by simp)
  have a2 := e2.grown hg4 (by simp)
  have a3 := e3.grown hg4 (by simp)
  have of4 := own_stay (w' := w4) ho3 fun g hg => hg4.block g (ho3.lt g hg).2 (by simp)
  have hbw4 : Below w.heap.size w w4 := hbw3.grown hg4 hbw3.size (fun k hk => by cases hk)
  have hz4' := hg4.size
  clear m0 m1 m2
  have m0 := a3.cell 1
  have m1 := a3.frozen 1
  have m2 := a3.lt
  simp at m0
  obtain ⟨G1, hG1⟩ : ∃ G1, Hid (G1 = w3.heap.size) := ⟨_, rfl⟩
  rw [← hG1.out] at ho4 ⊢
  have hgl1 : G1 < w4.heap.size := (ho4.lt G1 rfl).2
  have hgb1 : B ≤ G1 := (ho4.lt G1 rfl).1
  have hg01 : G0 < G1 := by rw [hG1.out]; exact (ho3.lt G0 rfl).2
  obtain ⟨w5, HW5⟩ : ∃ w5, Hid (w5 = w4.setCell ⟨w.heap.size + 1 + 1 + 1, 1, none⟩ (.slice (some ⟨G1, 0, none⟩) s.opn.length s.opn.length)) := ⟨_, rfl⟩
  have hz5 : w4.heap.size = w5.heap.size := by rw [HW5.out]; simp
  have hbw5 : Below w.heap.size w w5 := by rw [HW5.out]; exact hbw4.setCell (by simp; omega) _
  have hk5 : ∀ b, b ≠ w.heap.size + 1 + 1 + 1 → w5.heap[b]? = w4.heap[b]? := fun b hb => by rw [HW5.out]; exact heap_setCell_other _ _ _ _ (by simpa using hb)
  have ho5 := own_stay (w' := w5) ho4 fun g hg => hk5 g (by have := (ho4.lt g hg).1; omega)
  have of5 := own_stay (w' := w5) of4 fun g hg => hk5 g (by have := (of4.lt g hg).1; omega)
  have b0 : Blk w5 w.heap.size 25 _ := (hk5 _ (by omega)).trans a0
  have b1 : Blk w5 (w.heap.size + 1) 82 _ := (hk5 _ (by omega)).trans a1
  have b2 : Blk w5 (w.heap.size + 1 + 1) 25 _ := (hk5 _ (by omega)).trans a2
  have b3 : Blk w5 (w.heap.size + 1 + 1 + 1) 25 #[.slice (some ⟨G0, 0, none⟩) s.files.length s.files.length, .slice (some ⟨G1, 0, none⟩) s.opn.length s.opn.length, .int .i64 s.inp, .int .i64 s.out, .int .i64 s.nxt] := by
    rw [HW5.out]
    have h := a3.set_ 1 (.slice (some ⟨G1, 0, none⟩) s.opn.length s.opn.length)
    simpa using h
  go_upto_region 5 with fail
  rw [← HW5.out]
  clear p0 p1' p2' p3' p4' m0 m1
  obtain ⟨p0, p1', p2', p3', p4'⟩ := smBox' b0
  have n0 := b3.cell 1
  simp at n0
  have hwz5 : w.heap.size + 1 + 1 + 1 < w5.heap.size := b3.lt
  go_wp2_with (refine wpList_copy_all rfl (.tmp 23) (.tmp 25) 23 52 rfl i1 7 Try.underlying23 hi1 hy1 B G1 s.opn.length s.opn.length _ rfl ho5 A1 c1 (gCs s.opn) rfl HC1.out (by rw [gCs_len]) (opens_cells (HO.out.below hbw5)) (g_one _) ?_)
  intro w6 ho6 hg6
  have d1 := b1.grown hg6 (by simp; omega)
  have d2 := b2.grown hg6 (by simp; omega)
  have d3 := b3.grown hg6 (by simp; omega)
  have of6 := own_stay (w' := w6) of5 fun g hg => hg6.block g (of5.lt g hg).2 (by simp [Value.ownBlock] at hg; simp; omega)
  have hz6 := hg6.size
  have hbw6 : Below w.heap.size w w6 := hbw5.grown hg6 hbw5.size (fun k hk => by injection hk; omega)
  have hnw : Nw w6 B (w.heap.size + 1 + 1 + 1) s := ⟨by omega, by omega, _, _, d3, of6, ho6⟩
  have HNW := Lib.hid hnw
  have HB6 := Lib.hid hbw6
  have HD2 := Lib.hid d2
  have l0 := d1.cell 0
  have l1 := d1.lt
  simp at l0
  clear hnw p0 p1' p2' p3' p4' n0 hk5 ho4 ho5 ho6 of4 of5 of6 hbw3 hbw4 hbw5 hg4 hg6 a0 a1 a2 a3 b0 b1 b2 b3 e0 e1 e2 e3 d1 d2 d3 ho3 hbw6 hbW
  go_wp2_with fail
  refine (HAP.out w6 B (w.heap.size + 1 + 1 + 1) (by omega) HB6.out HNW.out).mono ?_
  rintro e w7 ⟨rfl, hn7, hb7⟩
  obtain ⟨-, hB7, v0, v1, q3, qf, qo⟩ := hn7
  obtain ⟨D0, f0, rfl, hcap0, -, -⟩ := own_files qf (by omega)
  obtain ⟨D1, f1, rfl, hcap1, -, -⟩ := own_opens qo (by omega)
  have q2 := HD2.out.below hb7 (by omega)
  have HB7 := Lib.hid (HB6.out.trans (hb7.mono (by omega)))
  have HFin : Hid (∀ W' : World, (∀ b, B ≤ b → W'.heap[b]? = w7.heap[b]?) → OwnS W' w.heap.size (smV D0 D1 f0 f1 s') s') := Lib.hid fun W' hk => by
    have h1 := own_stay (w' := W') qf fun g hg => hk g (qf.lt g hg).1
    have h2 := own_stay (w' := W') qo fun g hg => hk g (qo.lt g hg).1
    exact ⟨_, _, rfl, own_base h1 (by omega), own_base h2 (by omega)⟩
  obtain ⟨y0, y1, y2, y3, y4⟩ := smBox' q3
  have z0 := q2.cell 0
  have z1 := q2.cell 1
  have z2 := q2.cell 2
  have z3 := q2.cell 3
  have z4 := q2.cell 4
  have g0 := q2.frozen 0
  have g1 := q2.frozen 1
  have g2 := q2.frozen 2
  have g3 := q2.frozen 3
  have g4 := q2.frozen 4
  have zz := q2.lt
  simp at z0 z1 z2 z3 z4
  clear hb7 q3 q2 qf qo
  go_wp2
  refine bodyPost_ret (v := smV D0 D1 f0 f1 s') (by simp [results, Try.results44, go_sem, z0, z1, z2, z3, z4]) rfl ⟨⟨_, rfl, ?_⟩, ?_⟩
  · refine HFin.out _ fun b hb => ?_
    repeat rw [heap_setCell_other _ _ _ _ (by simp; omega)]
  · repeat refine Below.setCell ?_ (by simp; omega) _
    exact HB7.out
end Go.Proofs.Ytklpghpfdeojeaa
