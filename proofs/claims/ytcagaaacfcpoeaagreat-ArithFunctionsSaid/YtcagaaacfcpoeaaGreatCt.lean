/-
  Walks: the reference's balls; the examples of the law.
-/
import Derived.Test.YtcagaaacfcpoeaaGreatCs
namespace Go.Proofs.YtcagaaacfcpoeaaGreat
open Go.RowKit

@[reducible] def ballC (f : Tm) : Tm := cloneT (goalC { data := #[101, 114, 114, 111, 114] } [f, atmC { data := #[91, 93] }])
@[reducible] def revC (x : ByteArray) : Tm := ballC (goalC { data := #[101, 118, 97, 108, 117, 97, 116, 105, 111, 110, 95, 101, 114, 114, 111, 114] } [atmC x])
set_option maxRecDepth 100000 in
set_option maxHeartbeats 4000000 in
theorem ball52_any (t : Tm) (A : Option Addr) (c : Nat) (w : World) (ha : ArgsAt w (Old w.heap.size) A t.args) :
    Calls Tryz.prog 72 #[t.v A c] w fun e w' => NewT w (ballC t) e w' ∧ Below w.heap.size w w' := by
  obtain ⟨W, HW⟩ : ∃ X, Hid (X = (w.alloc (.cells #[.int .i64 t.kind, .int .i64 t.n, .string t.name, .slice A t.args.length c] 24)).alloc (.cells #[.int .i64 0, .int .i64 0, .string { data := #[] }, .slice none 0 0] 24)) := ⟨_, rfl⟩
  have hbW : Below w.heap.size w W := by rw [HW.out]; exact (bAlloc w _).alloc (by simp) _
  obtain ⟨q, hq⟩ : ∃ q, Hid (q = w.heap.size) := ⟨_, rfl⟩
  obtain ⟨r, hr⟩ : ∃ q, Hid (q = w.heap.size + 1) := ⟨_, rfl⟩
  have hk0 : Blk W q 24 #[.int .i64 t.kind, .int .i64 t.n, .string t.name, .slice A t.args.length c] := by rw [HW.out, hq.out]; exact (Blk.new w _ _).alloc _
  have hk1 : Blk W r 24 #[.int .i64 0, .int .i64 0, .string { data := #[] }, .slice none 0 0] := by
    rw [HW.out, hr.out]
    have h1 := Blk.new (w.alloc (.cells #[.int .i64 t.kind, .int .i64 t.n, .string t.name, .slice A t.args.length c] 24)) 24 #[.int .i64 0, .int .i64 0, .string { data := #[] }, .slice none 0 0]
    rw [World.size_alloc] at h1
    exact h1
  have HA := Lib.hid ha
  have HB := Lib.hid hbW
  have HK := Lib.hid hk0
  have HR := Lib.hid hk1
  have hqr : q ≠ r := by rw [hq.out, hr.out]; omega
  have hqw : w.heap.size ≤ q := by rw [hq.out]; exact Nat.le_refl _
  have hrw : w.heap.size ≤ r := by rw [hr.out]; omega
  have e0 := hk0.cell 0
  have e1 := hk0.cell 1
  have e2 := hk0.cell 2
  have e3 := hk0.cell 3
  have el := hk0.lt
  simp at e0 e1 e2 e3
  clear ha hbW hk0 hk1
  go_enter Tryz.func72, Tryz.ntmps72
  go_upto_region 1 with fail
  rw [← HW.out, ← hr.out, ← hq.out]
  clear HW
  clear e0 e1 e2 e3 el
  obtain ⟨D, hD⟩ : ∃ X, Hid (X = W.drew) := ⟨_, rfl⟩
  have hd : Below W.heap.size W D := by rw [hD.out]; exact bDrewN (Below.refl _ _) 1
  have hS0 : KeptQ r W D := KeptQ.of hd
  refine wp_region_N (fun w' => KeptQ r W w') (fun _ => true) (by kernel_rfl) ?_
  rw [← hD.out]
  have HBD := Lib.hid (bNext HB.out hd)
  have HRD := Lib.hid (BlkNext HR.out hd)
  clear hD hd
  refine wpAnyN_take (i := 0) (v := ?v1) rfl (by kernel_rfl) (by kernel_rfl) (by kernel_rfl) (by kernel_rfl) (fun _ _ _ h => h) (Or.inl ⟨by rfl, ?hy1⟩) (by assumption) ?_
  case hy1 => intro w hSw; have h := (show Blk _ q 24 #[.int .i64 t.kind, .int .i64 t.n, .string t.name, .slice A t.args.length c] from (hSw.block q HK.out.lt hqr).trans HK.out); have e0 := h.cell 0; have e1 := h.cell 1; have e2 := h.cell 2; have e3 := h.cell 3; have el := h.lt; simp at e0 e1 e2 e3; clear h; go_simp; try with_reducible rfl
  simp only [Act.put, List.getElem_toArray, List.getElem_cons_zero, List.setIfInBounds_toArray, List.set_cons_zero, List.set_cons_succ]
  refine wpAnyN_one (i := 1) (by kernel_rfl) rfl (fun K hK => ?_)
  simp only [List.getElem_toArray, List.getElem_cons_zero, List.getElem_cons_succ]
  go_simp
  refine (atom54_any _ D).mono ?_
  rintro e w1 ⟨rfl, hb1⟩
  have HB1 := Lib.hid (bNext HBD.out hb1)
  have HR1 := Lib.hid (BlkNext HRD.out hb1)
  have hk1 : KeptQ r W w1 := hS0.trans (KeptQ.of hb1)
  refine hK _ _ (fun _ => hk1) ?_
  clear hb1 hS0
  (try simp only [Act.put, List.setIfInBounds_toArray, List.set_cons_zero, List.set_cons_succ])
  refine wpAnyN_one (i := 2) (by kernel_rfl) rfl (fun K hK => ?_)
  simp only [List.getElem_toArray, List.getElem_cons_zero, List.getElem_cons_succ]
  go_simp
  obtain ⟨w2, hw2⟩ : ∃ X, Hid (X = w1.alloc (.cells #[.int .i64 t.kind, .int .i64 t.n, .string t.name, .slice A t.args.length c, .int .i64 (atmC { data := #[91, 93] }).kind, .int .i64 (atmC { data := #[91, 93] }).n, .string (atmC { data := #[91, 93] }).name, .slice none (atmC { data := #[91, 93] }).args.length 0] 24)) := ⟨_, rfl⟩
  obtain ⟨g2, hg2⟩ : ∃ q, Hid (q = w1.heap.size) := ⟨_, rfl⟩
  rw [← hw2.out, ← hg2.out]
  have hb2 : Below w1.heap.size w1 w2 := by rw [hw2.out]; exact bAlloc _ _
  have HB2 := Lib.hid (bNext HB1.out hb2)
  have HR2 := Lib.hid (BlkNext HR1.out hb2)
  have hk2 : KeptQ r W w2 := hk1.trans (KeptQ.of hb2)
  have HL2 := Lib.hid (show ArgsAt w2 (Old w2.heap.size) (some ⟨g2, 0, none⟩) [t, atmC { data := #[91, 93] }] by
    rw [hw2.out, hg2.out]
    exact args_two (F := Old w1.heap.size) (y := atmC { data := #[91, 93] }) (B := none) (d := 0) (ArgsNext HA.out HB1.out) (.nil _) (fun b hb => ⟨hb, by have : b < w1.heap.size := hb; simp; omega⟩) (by simp))
  refine hK _ _ (fun _ => hk2) ?_
  clear hw2 hb2 hk1
  (try simp only [Act.put, List.setIfInBounds_toArray, List.set_cons_zero, List.set_cons_succ])
  refine wpAnyN_one (i := 3) (by kernel_rfl) rfl (fun K hK => ?_)
  simp only [List.getElem_toArray, List.getElem_cons_zero, List.getElem_cons_succ]
  go_simp
  refine (structure53_any _ [t, atmC { data := #[91, 93] }] (some ⟨g2, 0, none⟩) 2 w2).mono ?_
  rintro e w3 ⟨rfl, hb3⟩
  have HB3 := Lib.hid (bNext HB2.out hb3)
  have HR3 := Lib.hid (BlkNext HR2.out hb3)
  have hk3 : KeptQ r W w3 := hk2.trans (KeptQ.of hb3)
  have HL3 := Lib.hid (ArgsNext HL2.out hb3)
  refine hK _ _ (fun _ => hk3) ?_
  clear hb3 hk2
  (try simp only [Act.put, List.setIfInBounds_toArray, List.set_cons_zero, List.set_cons_succ])
  refine wpAnyN_one (i := 4) (by kernel_rfl) rfl (fun K hK => ?_)
  simp only [List.getElem_toArray, List.getElem_cons_zero, List.getElem_cons_succ]
  go_simp
  refine (clone76_any (goalC _ [t, atmC { data := #[91, 93] }]) (some ⟨g2, 0, none⟩) 2 w3 HL3.out).mono ?_
  rintro e w4 ⟨⟨A4, c4, rfl, ha4⟩, hb4⟩
  obtain ⟨z, hz⟩ : ∃ z, Hid (z = ballC t) := ⟨_, rfl⟩
  rw [show cloneT (goalC { data := #[101, 114, 114, 111, 114] } [t, atmC { data := #[91, 93] }]) = z from hz.out.symm] at ha4 ⊢
  have HB4 := Lib.hid (bNext HB3.out hb4)
  have HR4 := Lib.hid (BlkNext HR3.out hb4)
  have hz3 := HB3.out.size
  have HA4 := Lib.hid (ha4.keep (w' := w4) (G := Btw w3.heap.size w4.heap.size) (fun _ _ => rfl) (fun b hb => hb))
  have hk4 : KeptQ r W w4 := hk3.trans (KeptQ.of hb4)
  refine hK _ _ (fun _ => hk4) ?_
  clear hb4 hk3 ha4
  have hl3 := HR3.out.lt
  (try simp only [Act.put, List.setIfInBounds_toArray, List.set_cons_zero, List.set_cons_succ])
  have r0 := HR4.out.cell 0
  have f0 := HR4.out.frozen 0
  have r1 := HR4.out.cell 1
  have f1 := HR4.out.frozen 1
  have r2 := HR4.out.cell 2
  have f2 := HR4.out.frozen 2
  have r3 := HR4.out.cell 3
  have f3 := HR4.out.frozen 3
  have rl := HR4.out.lt
  simp at r0 r1 r2 r3
  refine wpAnyN_one (i := 5) (by kernel_rfl) rfl (fun K hK => ?_)
  simp only [List.getElem_toArray, List.getElem_cons_zero, List.getElem_cons_succ]
  go_simp
  refine hK _ _ (fun _ => ((((hk4.setq _).setq _).setq _).setq _)) ?_
  (try simp only [Act.put, List.setIfInBounds_toArray, List.set_cons_zero, List.set_cons_succ])
  refine wpAnyN_done (by kernel_rfl) ?_ _
  clear hk4
  go_wp2_with fail
  refine bodyPost_ret (v := z.v A4 c4) (by simp only [results, Tryz.results72]; go_simp) rfl ⟨?_, ?_⟩
  · rw [← hz.out]
    refine ⟨A4, c4, rfl, ?_⟩
    refine HA4.out.keep (fun b hb => ?_) (fun b hb => ⟨by have := hb.1; omega, by have := hb.2; simpa using this⟩)
    repeat rw [heap_setCell_other _ _ _ _ (by have := hb.1; simp; omega)]
  · repeat refine Below.setCell ?_ hrw _
    exact HB4.out
set_option maxHeartbeats 4000000 in
theorem reval25_any (x : ByteArray) (w : World) : Calls Tryz.prog 29 #[.string x] w fun e w' => NewT w (revC x) e w' ∧ Below w.heap.size w w' := by
  obtain ⟨W, HW⟩ : ∃ X, Hid (X = w.alloc (.cells #[.int .i64 0, .int .i64 0, .string { data := #[] }, .slice none 0 0] 24)) := ⟨_, rfl⟩
  have hbW : Below w.heap.size w W := by rw [HW.out]; exact bAlloc w _
  obtain ⟨r, hr⟩ : ∃ q, Hid (q = w.heap.size) := ⟨_, rfl⟩
  have hk1 : Blk W r 24 #[.int .i64 0, .int .i64 0, .string { data := #[] }, .slice none 0 0] := by rw [HW.out, hr.out]; exact Blk.new w _ _
  have HB := Lib.hid hbW
  have HR := Lib.hid hk1
  have hrw : w.heap.size ≤ r := by rw [hr.out]; exact Nat.le_refl _
  clear hbW hk1
  go_enter Tryz.func29, Tryz.ntmps29
  go_upto_region 1 with fail
  rw [← HW.out, ← hr.out]
  clear HW
  go_wp2_with fail
  refine (atom54_any _ W).mono ?_
  rintro e w1 ⟨rfl, hb1⟩
  have HB1 := Lib.hid (bNext HB.out hb1)
  have HR1 := Lib.hid (BlkNext HR.out hb1)
  clear hb1
  go_wp2_with fail
  obtain ⟨w2, hw2⟩ : ∃ X, Hid (X = w1.alloc (.cells #[.int .i64 (atmC x).kind, .int .i64 (atmC x).n, .string (atmC x).name, .slice none (atmC x).args.length 0] 24)) := ⟨_, rfl⟩
  obtain ⟨g2, hg2⟩ : ∃ q, Hid (q = w1.heap.size) := ⟨_, rfl⟩
  rw [← hw2.out, ← hg2.out]
  have hb2 : Below w1.heap.size w1 w2 := by rw [hw2.out]; exact bAlloc _ _
  have HB2 := Lib.hid (bNext HB1.out hb2)
  have HR2 := Lib.hid (BlkNext HR1.out hb2)
  have HL2 := Lib.hid (show ArgsAt w2 (Old w2.heap.size) (some ⟨g2, 0, none⟩) [atmC x] by
    rw [hw2.out, hg2.out]
    exact args_one (F := Old w1.heap.size) (x := atmC x) (A := none) (c := 0) (.nil _) (fun b hb => ⟨hb, by have : b < w1.heap.size := hb; simp; omega⟩) (by simp))
  clear hw2 hb2
  refine (structure53_any _ [atmC x] (some ⟨g2, 0, none⟩) 1 w2).mono ?_
  rintro e w3 ⟨rfl, hb3⟩
  have HL3 := Lib.hid (ArgsNext HL2.out hb3)
  have HB3 := Lib.hid (bNext HB2.out hb3)
  have HR3 := Lib.hid (BlkNext HR2.out hb3)
  clear hb3
  go_wp2_with fail
  refine (ball52_any (goalC _ [atmC x]) (some ⟨g2, 0, none⟩) 1 w3 HL3.out).mono ?_
  rintro e w4 ⟨⟨A4, c4, rfl, ha4⟩, hb4⟩
  obtain ⟨z, hz⟩ : ∃ z, Hid (z = revC x) := ⟨_, rfl⟩
  rw [show ballC (goalC _ [atmC x]) = z from hz.out.symm] at ha4 ⊢
  have HB4 := Lib.hid (bNext HB3.out hb4)
  have HR4 := Lib.hid (BlkNext HR3.out hb4)
  have hz3 := HB3.out.size
  have hl3 := HR3.out.lt
  have HA4 := Lib.hid (ha4.keep (w' := w4) (G := Btw w3.heap.size w4.heap.size) (fun _ _ => rfl) (fun b hb => hb))
  clear hb4 ha4
  have r0 := HR4.out.cell 0
  have f0 := HR4.out.frozen 0
  have r1 := HR4.out.cell 1
  have f1 := HR4.out.frozen 1
  have r2 := HR4.out.cell 2
  have f2 := HR4.out.frozen 2
  have r3 := HR4.out.cell 3
  have f3 := HR4.out.frozen 3
  have rl := HR4.out.lt
  simp at r0 r1 r2 r3
  go_wp2_with fail
  refine bodyPost_ret (v := z.v A4 c4) (by simp only [results, Tryz.results29]; go_simp) rfl ⟨?_, ?_⟩
  · rw [← hz.out]
    refine ⟨A4, c4, rfl, ?_⟩
    refine HA4.out.keep (fun b hb => ?_) (fun b hb => ⟨by have := hb.1; omega, by have := hb.2; simpa using this⟩)
    repeat rw [heap_setCell_other _ _ _ _ (by have := hb.1; simp; omega)]
  · repeat refine Below.setCell ?_ hrw _
    exact HB4.out
end Go.Proofs.YtcagaaacfcpoeaaGreat
