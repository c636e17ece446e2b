/-
  Law: whether any two blocks are equal.
-/
import Derived.Test.YtbipeakinmbdiaaGreatDoorKv
namespace Go.Proofs.YtbipeakinmbdiaaGreatDoor
open Go.RowKit

set_option maxRecDepth 100000 in
set_option maxHeartbeats 1000000 in
theorem law_equal (b d : Bk) (A B : Option Addr) (c e : Nat) (w : World) (hE : Env w) (ha : InsAt w w.heap.size A b.code.length b.code) (hb : InsAt w w.heap.size B d.code.length d.code) :
    Calls Tryz.prog 5 #[b.v A c, d.v B e] w fun e w' => e = .returned (.bool true) ∧ Below w.heap.size w w' := by
  obtain ⟨w1, hw1⟩ : ∃ X, Hid (X = (w.alloc (.cells (bkC b A b.code.length c) 28)).alloc (.cells (bkC d B d.code.length e) 28)) := ⟨_, rfl⟩
  obtain ⟨p, hp⟩ : ∃ p, Hid (p = w.heap.size) := ⟨_, rfl⟩
  obtain ⟨q, hq⟩ : ∃ p, Hid (p = w.heap.size + 1) := ⟨_, rfl⟩
  have HP := Lib.hid (show Blk w1 p 28 (bkC b A b.code.length c) by rw [hw1.out, hp.out]; exact (Blk.new _ _ _).alloc _)
  have HQ := Lib.hid (show Blk w1 q 28 (bkC d B d.code.length e) by
    rw [hw1.out, hq.out]
    have h1 := Blk.new (w.alloc (.cells (bkC b A b.code.length c) 28)) 28 (bkC d B d.code.length e)
    rw [World.size_alloc] at h1
    exact h1)
  have HK := Lib.hid (show Below w.heap.size w w1 by rw [hw1.out]; exact (bAlloc _ _).alloc (by simp) _)
  have HE := Lib.hid (hE.next HK.out)
  have HA := Lib.hid (ha.next HK.out)
  have HB := Lib.hid (hb.next HK.out)
  clear hE ha hb
  go_enter Tryz.func5, Tryz.ntmps5
  go_upto_region 1 with fail
  rw [← hw1.out, ← hq.out, ← hp.out]
  refine wp_region_N (fun w' => Below w1.heap.size w1 w') (fun _ => true) (by kernel_rfl) ?_
  have hS0 : Below w1.heap.size w1 w1.drew := bDrew _
  refine wpAnyN_take (i := 0) (v := b.v A c) rfl (by kernel_rfl) (by kernel_rfl) (by kernel_rfl) (by kernel_rfl) (fun _ _ _ h => h) (Or.inl ⟨by kernel_rfl, ?hq0⟩) (by assumption) ?_
  case hq0 =>
    intro w hSw
    have HQ := Lib.hid (HP.out.next hSw)
    have t0 := HQ.out.cell 0
    have t1 := HQ.out.cell 1
    have t2 := HQ.out.cell 2
    have t3 := HQ.out.cell 3
    have t4 := HQ.out.cell 4
    have t5 := HQ.out.cell 5
    have t6 := HQ.out.cell 6
    have t7 := HQ.out.cell 7
    have t8 := HQ.out.cell 8
    have tl := HQ.out.lt
    simp at t0 t1 t2 t3 t4 t5 t6 t7 t8
    go_simp
  simp only [Act.put, List.getElem_toArray, List.getElem_cons_zero, List.setIfInBounds_toArray, List.set_cons_zero, List.set_cons_succ]
  refine wpAnyN_take (i := 1) (v := d.v B e) rfl (by kernel_rfl) (by kernel_rfl) (by kernel_rfl) (by kernel_rfl) (fun _ _ _ h => h) (Or.inl ⟨by kernel_rfl, ?hq1⟩) (by assumption) ?_
  case hq1 =>
    intro w hSw
    have HQ := Lib.hid (HQ.out.next hSw)
    have t0 := HQ.out.cell 0
    have t1 := HQ.out.cell 1
    have t2 := HQ.out.cell 2
    have t3 := HQ.out.cell 3
    have t4 := HQ.out.cell 4
    have t5 := HQ.out.cell 5
    have t6 := HQ.out.cell 6
    have t7 := HQ.out.cell 7
    have t8 := HQ.out.cell 8
    have tl := HQ.out.lt
    simp at t0 t1 t2 t3 t4 t5 t6 t7 t8
    go_simp
  simp only [Act.put, List.getElem_toArray, List.getElem_cons_zero, List.getElem_cons_succ, List.setIfInBounds_toArray, List.set_cons_zero, List.set_cons_succ]
  refine wpAnyN_take (i := 3) (v := b.v A c) rfl (by kernel_rfl) (by kernel_rfl) (by kernel_rfl) (by kernel_rfl) (fun _ _ _ h => h) (Or.inl ⟨by kernel_rfl, ?hq3⟩) (by assumption) ?_
  case hq3 =>
    intro w hSw
    have HQ := Lib.hid (HP.out.next hSw)
    have t0 := HQ.out.cell 0
    have t1 := HQ.out.cell 1
    have t2 := HQ.out.cell 2
    have t3 := HQ.out.cell 3
    have t4 := HQ.out.cell 4
    have t5 := HQ.out.cell 5
    have t6 := HQ.out.cell 6
    have t7 := HQ.out.cell 7
    have t8 := HQ.out.cell 8
    have tl := HQ.out.lt
    simp at t0 t1 t2 t3 t4 t5 t6 t7 t8
    go_simp
  simp only [Act.put, List.getElem_toArray, List.getElem_cons_zero, List.getElem_cons_succ, List.setIfInBounds_toArray, List.set_cons_zero, List.set_cons_succ]
  refine wpAnyN_take (i := 4) (v := d.v B e) rfl (by kernel_rfl) (by kernel_rfl) (by kernel_rfl) (by kernel_rfl) (fun _ _ _ h => h) (Or.inl ⟨by kernel_rfl, ?hq4⟩) (by assumption) ?_
  case hq4 =>
    intro w hSw
    have HQ := Lib.hid (HQ.out.next hSw)
    have t0 := HQ.out.cell 0
    have t1 := HQ.out.cell 1
    have t2 := HQ.out.cell 2
    have t3 := HQ.out.cell 3
    have t4 := HQ.out.cell 4
    have t5 := HQ.out.cell 5
    have t6 := HQ.out.cell 6
    have t7 := HQ.out.cell 7
    have t8 := HQ.out.cell 8
    have tl := HQ.out.lt
    simp at t0 t1 t2 t3 t4 t5 t6 t7 t8
    go_simp
  simp only [Act.put, List.getElem_toArray, List.getElem_cons_zero, List.getElem_cons_succ, List.setIfInBounds_toArray, List.set_cons_zero, List.set_cons_succ]
  refine wpAnyN_one (i := 2) (by kernel_rfl) rfl (fun K hK => ?_)
  simp only [List.getElem_toArray, List.getElem_cons_zero, List.getElem_cons_succ]
  go_simp
  refine (same_any b d A B c e _ (HA.out.next hS0) (HB.out.next hS0)).mono ?_
  rintro e2 w2 ⟨rfl, hb⟩
  have HK2 := Lib.hid (bNext hS0 hb)
  obtain ⟨z, hz⟩ : ∃ z, Hid (z = decide (b = d)) := ⟨_, rfl⟩
  rw [← hz.out]
  refine hK _ _ (fun _ => HK2.out) ?_
  (try simp only [Act.put, List.setIfInBounds_toArray, List.set_cons_zero, List.set_cons_succ])
  clear hK hS0 hb
  have hS2 := HK2.out
  refine wpAnyN_one (i := 5) (by kernel_rfl) rfl (fun K hK => ?_)
  simp only [List.getElem_toArray, List.getElem_cons_zero, List.getElem_cons_succ]
  go_simp
  refine (Same_any b d A B c e _ (HA.out.next hS2) (HB.out.next hS2)).mono ?_
  rintro e2 w3 ⟨rfl, hb⟩
  have HK3 := Lib.hid (bNext hS2 hb)
  rw [← hz.out]
  refine hK _ _ (fun _ => HK3.out) ?_
  (try simp only [Act.put, List.setIfInBounds_toArray, List.set_cons_zero, List.set_cons_succ])
  clear hK hS2 hb
  have hS3 := HK3.out
  refine wpAnyN_take (i := 6) (v := .bool true) rfl (by kernel_rfl) (by kernel_rfl) (by kernel_rfl) (by kernel_rfl) (fun _ _ _ h => h) (Or.inl ⟨by kernel_rfl, ?hq6⟩) (by assumption) ?_
  case hq6 => intro w hSw; go_simp
  simp only [Act.put, List.getElem_toArray, List.getElem_cons_zero, List.getElem_cons_succ, List.setIfInBounds_toArray, List.set_cons_zero, List.set_cons_succ]
  refine wpAnyN_take (i := 7) (v := .bool true) rfl (by kernel_rfl) (by kernel_rfl) (by kernel_rfl) (by kernel_rfl) (fun _ _ _ h => h) (Or.inl ⟨by kernel_rfl, ?hq7⟩) (by assumption) ?_
  case hq7 => intro w hSw; go_simp
  simp only [Act.put, List.getElem_toArray, List.getElem_cons_zero, List.getElem_cons_succ, List.setIfInBounds_toArray, List.set_cons_zero, List.set_cons_succ]
  refine wpAnyN_one (i := 8) (by kernel_rfl) rfl (fun K hK => ?_)
  simp only [List.getElem_toArray, List.getElem_cons_zero, List.getElem_cons_succ]
  go_simp
  refine (awake_any _ (HE.out.next hS3)).mono ?_
  rintro e2 w4 ⟨rfl, hb⟩
  have HK4 := Lib.hid (bNext hS3 hb)
  refine hK _ _ (fun _ => HK4.out) ?_
  (try simp only [Act.put, List.setIfInBounds_toArray, List.set_cons_zero, List.set_cons_succ])
  clear hK hS3 hb
  have hS4 := HK4.out
  refine wpAnyN_take (i := 9) (v := .bool true) rfl (by kernel_rfl) (by kernel_rfl) (by kernel_rfl) (by kernel_rfl) (fun _ _ _ h => h) (Or.inl ⟨by kernel_rfl, ?hq9⟩) (by assumption) ?_
  case hq9 => intro w hSw; go_simp
  simp only [Act.put, List.getElem_toArray, List.getElem_cons_zero, List.getElem_cons_succ, List.setIfInBounds_toArray, List.set_cons_zero, List.set_cons_succ]
  refine wpAnyN_take (i := 10) (v := .bool true) rfl (by kernel_rfl) (by kernel_rfl) (by kernel_rfl) (by kernel_rfl) (fun _ _ _ h => h) (Or.inl ⟨by kernel_rfl, ?hq10⟩) (by assumption) ?_
  case hq10 => intro w hSw; go_simp
  simp only [Act.put, List.getElem_toArray, List.getElem_cons_zero, List.getElem_cons_succ, List.setIfInBounds_toArray, List.set_cons_zero, List.set_cons_succ]
  refine wpAnyN_done (by kernel_rfl) ?_ _
  go_wp2_with fail
  go_ret
  exact ⟨rfl, bNext HK.out HK4.out⟩
end Go.Proofs.YtbipeakinmbdiaaGreatDoor
