/-
  Law: the registers of any instruction.
-/
import Derived.Test.YtbipeakinmbdiaaGreatDoorKv
namespace Go.Proofs.YtbipeakinmbdiaaGreatDoor
open Go.RowKit

theorem rd_len (x : In) : (rdOf x).length ≤ 1000000 := by
  cases hf : fo x with
  | true => exact (fof hf).rl
  | false => unfold rdOf regsOf; rw [hf]; simp
theorem wr_len (x : In) : (wrOf x).length ≤ 1000000 := by
  cases hf : fo x with
  | true => exact (fof hf).wl
  | false => unfold wrOf regsOf; rw [hf]; simp
set_option maxRecDepth 100000 in
set_option maxHeartbeats 1000000 in
theorem law_registers (x : In) (w : World) (hE : Env w) : Calls Tryz.prog 6 #[x.v] w fun e w' => e = .returned (.bool true) ∧ Below w.heap.size w w' := by
  obtain ⟨w1, hw1⟩ : ∃ X, Hid (X = w.alloc (.cells #[.int .i64 x.op, .int .i64 x.r, .int .i64 x.a, .int .i64 x.n, .string x.nm, .int .i64 x.ar] 34)) := ⟨_, rfl⟩
  obtain ⟨p, hp⟩ : ∃ p, Hid (p = w.heap.size) := ⟨_, rfl⟩
  have HX := Lib.hid (show BoxI w1 p x by rw [hw1.out, hp.out]; exact BoxI.new w x)
  have HK := Lib.hid (show Below w.heap.size w w1 by rw [hw1.out]; exact bAlloc _ _)
  have HE := Lib.hid (hE.next HK.out)
  clear hE
  go_enter Tryz.func6, Tryz.ntmps6
  go_upto_region 1 with fail
  rw [← hw1.out, ← hp.out]
  refine wp_region_N (fun w' => Below w1.heap.size w1 w') (fun _ => true) (by kernel_rfl) ?_
  have hS0 : Below w1.heap.size w1 w1.drew := bDrew _
  refine wpAnyN_take (i := 0) (v := x.v) rfl (by kernel_rfl) (by kernel_rfl) (by kernel_rfl) (by kernel_rfl) (fun _ _ _ h => h) (Or.inl ⟨by kernel_rfl, ?hq0⟩) (by assumption) ?_
  case hq0 =>
    intro w hSw
    obtain ⟨x0, x1, x2, x3, x4, x5⟩ := BoxI.cells (BlkNext HX.out hSw)
    go_simp
  simp only [Act.put, List.getElem_toArray, List.getElem_cons_zero, List.setIfInBounds_toArray, List.set_cons_zero, List.set_cons_succ]
  refine wpAnyN_take (i := 2) (v := x.v) rfl (by kernel_rfl) (by kernel_rfl) (by kernel_rfl) (by kernel_rfl) (fun _ _ _ h => h) (Or.inl ⟨by kernel_rfl, ?hq2⟩) (by assumption) ?_
  case hq2 =>
    intro w hSw
    obtain ⟨x0, x1, x2, x3, x4, x5⟩ := BoxI.cells (BlkNext HX.out hSw)
    go_simp
  simp only [Act.put, List.getElem_toArray, List.getElem_cons_zero, List.getElem_cons_succ, List.setIfInBounds_toArray, List.set_cons_zero, List.set_cons_succ]
  refine wpAnyN_one (i := 1) (by kernel_rfl) rfl (fun K hK => ?_)
  simp only [List.getElem_toArray, List.getElem_cons_zero, List.getElem_cons_succ]
  go_simp
  refine (reads_any x _).mono ?_
  rintro e w2 ⟨v, rfl, ho⟩
  obtain ⟨Aw2, cw2, rfl, hi, hb⟩ := ret_ints ho (rd_len x)
  have HIw2 := Lib.hid hi
  have HKw2 := Lib.hid (bNext hS0 hb)
  refine hK _ _ (fun _ => HKw2.out) ?_
  (try simp only [Act.put, List.setIfInBounds_toArray, List.set_cons_zero, List.set_cons_succ])
  clear hK hS0 hi hb ho
  have hSw2 := HKw2.out
  refine wpAnyN_one (i := 3) (by kernel_rfl) rfl (fun K hK => ?_)
  simp only [List.getElem_toArray, List.getElem_cons_zero, List.getElem_cons_succ]
  go_simp
  refine (Reads_any x _).mono ?_
  rintro e w3 ⟨v, rfl, ho⟩
  obtain ⟨Aw3, cw3, rfl, hi, hb⟩ := ret_ints ho (rd_len x)
  have HIw3 := Lib.hid hi
  have HJw3 := Lib.hid (HIw2.out.next hb)
  have HKw3 := Lib.hid (bNext hSw2 hb)
  refine hK _ _ (fun _ => HKw3.out) ?_
  (try simp only [Act.put, List.setIfInBounds_toArray, List.set_cons_zero, List.set_cons_succ])
  clear hK hSw2 hi hb ho
  have hSw3 := HKw3.out
  refine wpAnyN_one (i := 4) (by kernel_rfl) rfl (fun K hK => ?_)
  simp only [List.getElem_toArray, List.getElem_cons_zero, List.getElem_cons_succ]
  go_simp
  refine (numbers_any Aw2 Aw3 _ _ cw2 cw3 (rdOf x) (rdOf x) w3 HJw3.out HIw3.out).mono ?_
  rintro e w4 ⟨rfl, hb⟩
  rw [decide_eq_true (rfl : rdOf x = rdOf x)]
  have HKw4 := Lib.hid (bNext hSw3 hb)
  refine hK _ _ (fun _ => HKw4.out) ?_
  (try simp only [Act.put, List.setIfInBounds_toArray, List.set_cons_zero, List.set_cons_succ])
  clear hK hSw3 hb
  have hSw4 := HKw4.out
  refine wpAnyN_take (i := 5) (v := .bool true) rfl (by kernel_rfl) (by kernel_rfl) (by kernel_rfl) (by kernel_rfl) (fun _ _ _ h => h) (Or.inl ⟨by kernel_rfl, ?hq5⟩) (by assumption) ?_
  case hq5 => intro w hSw; go_simp
  simp only [Act.put, List.getElem_toArray, List.getElem_cons_zero, List.getElem_cons_succ, List.setIfInBounds_toArray, List.set_cons_zero, List.set_cons_succ]
  refine wpAnyN_take (i := 6) (v := x.v) rfl (by kernel_rfl) (by kernel_rfl) (by kernel_rfl) (by kernel_rfl) (fun _ _ _ h => h) (Or.inl ⟨by kernel_rfl, ?hq6⟩) (by assumption) ?_
  case hq6 =>
    intro w hSw
    obtain ⟨x0, x1, x2, x3, x4, x5⟩ := BoxI.cells (BlkNext HX.out hSw)
    go_simp
  simp only [Act.put, List.getElem_toArray, List.getElem_cons_zero, List.getElem_cons_succ, List.setIfInBounds_toArray, List.set_cons_zero, List.set_cons_succ]
  refine wpAnyN_take (i := 8) (v := x.v) rfl (by kernel_rfl) (by kernel_rfl) (by kernel_rfl) (by kernel_rfl) (fun _ _ _ h => h) (Or.inl ⟨by kernel_rfl, ?hq8⟩) (by assumption) ?_
  case hq8 =>
    intro w hSw
    obtain ⟨x0, x1, x2, x3, x4, x5⟩ := BoxI.cells (BlkNext HX.out hSw)
    go_simp
  simp only [Act.put, List.getElem_toArray, List.getElem_cons_zero, List.getElem_cons_succ, List.setIfInBounds_toArray, List.set_cons_zero, List.set_cons_succ]
  refine wpAnyN_one (i := 7) (by kernel_rfl) rfl (fun K hK => ?_)
  simp only [List.getElem_toArray, List.getElem_cons_zero, List.getElem_cons_succ]
  go_simp
  refine (writes_any x _).mono ?_
  rintro e w5 ⟨v, rfl, ho⟩
  obtain ⟨Aw5, cw5, rfl, hi, hb⟩ := ret_ints ho (wr_len x)
  have HIw5 := Lib.hid hi
  have HKw5 := Lib.hid (bNext hSw4 hb)
  refine hK _ _ (fun _ => HKw5.out) ?_
  (try simp only [Act.put, List.setIfInBounds_toArray, List.set_cons_zero, List.set_cons_succ])
  clear hK hSw4 hi hb ho
  have hSw5 := HKw5.out
  refine wpAnyN_one (i := 9) (by kernel_rfl) rfl (fun K hK => ?_)
  simp only [List.getElem_toArray, List.getElem_cons_zero, List.getElem_cons_succ]
  go_simp
  refine (Writes_any x _).mono ?_
  rintro e w6 ⟨v, rfl, ho⟩
  obtain ⟨Aw6, cw6, rfl, hi, hb⟩ := ret_ints ho (wr_len x)
  have HIw6 := Lib.hid hi
  have HJw6 := Lib.hid (HIw5.out.next hb)
  have HKw6 := Lib.hid (bNext hSw5 hb)
  refine hK _ _ (fun _ => HKw6.out) ?_
  (try simp only [Act.put, List.setIfInBounds_toArray, List.set_cons_zero, List.set_cons_succ])
  clear hK hSw5 hi hb ho
  have hSw6 := HKw6.out
  refine wpAnyN_one (i := 10) (by kernel_rfl) rfl (fun K hK => ?_)
  simp only [List.getElem_toArray, List.getElem_cons_zero, List.getElem_cons_succ]
  go_simp
  refine (numbers_any Aw5 Aw6 _ _ cw5 cw6 (wrOf x) (wrOf x) w6 HJw6.out HIw6.out).mono ?_
  rintro e w7 ⟨rfl, hb⟩
  rw [decide_eq_true (rfl : wrOf x = wrOf x)]
  have HKw7 := Lib.hid (bNext hSw6 hb)
  refine hK _ _ (fun _ => HKw7.out) ?_
  (try simp only [Act.put, List.setIfInBounds_toArray, List.set_cons_zero, List.set_cons_succ])
  clear hK hSw6 hb
  have hSw7 := HKw7.out
  refine wpAnyN_take (i := 11) (v := .bool true) rfl (by kernel_rfl) (by kernel_rfl) (by kernel_rfl) (by kernel_rfl) (fun _ _ _ h => h) (Or.inl ⟨by kernel_rfl, ?hq11⟩) (by assumption) ?_
  case hq11 => intro w hSw; go_simp
  simp only [Act.put, List.getElem_toArray, List.getElem_cons_zero, List.getElem_cons_succ, List.setIfInBounds_toArray, List.set_cons_zero, List.set_cons_succ]
  refine wpAnyN_take (i := 12) (v := .bool true) rfl (by kernel_rfl) (by kernel_rfl) (by kernel_rfl) (by kernel_rfl) (fun _ _ _ h => h) (Or.inl ⟨by kernel_rfl, ?hq12⟩) (by assumption) ?_
  case hq12 => intro w hSw; go_simp
  simp only [Act.put, List.getElem_toArray, List.getElem_cons_zero, List.getElem_cons_succ, List.setIfInBounds_toArray, List.set_cons_zero, List.set_cons_succ]
  refine wpAnyN_one (i := 13) (by kernel_rfl) rfl (fun K hK => ?_)
  simp only [List.getElem_toArray, List.getElem_cons_zero, List.getElem_cons_succ]
  go_simp
  refine (awake_any _ (HE.out.next hSw7)).mono ?_
  rintro e2 w8 ⟨rfl, hb⟩
  have HK8 := Lib.hid (bNext hSw7 hb)
  refine hK _ _ (fun _ => HK8.out) ?_
  (try simp only [Act.put, List.setIfInBounds_toArray, List.set_cons_zero, List.set_cons_succ])
  clear hK hSw7 hb
  have hS8 := HK8.out
  refine wpAnyN_take (i := 14) (v := .bool true) rfl (by kernel_rfl) (by kernel_rfl) (by kernel_rfl) (by kernel_rfl) (fun _ _ _ h => h) (Or.inl ⟨by kernel_rfl, ?hq14⟩) (by assumption) ?_
  case hq14 => intro w hSw; go_simp
  simp only [Act.put, List.getElem_toArray, List.getElem_cons_zero, List.getElem_cons_succ, List.setIfInBounds_toArray, List.set_cons_zero, List.set_cons_succ]
  refine wpAnyN_take (i := 15) (v := .bool true) rfl (by kernel_rfl) (by kernel_rfl) (by kernel_rfl) (by kernel_rfl) (fun _ _ _ h => h) (Or.inl ⟨by kernel_rfl, ?hq15⟩) (by assumption) ?_
  case hq15 => intro w hSw; go_simp
  simp only [Act.put, List.getElem_toArray, List.getElem_cons_zero, List.getElem_cons_succ, List.setIfInBounds_toArray, List.set_cons_zero, List.set_cons_succ]
  refine wpAnyN_done (by kernel_rfl) ?_ _
  go_wp2_with fail
  go_ret
  exact ⟨rfl, bNext HK.out HK8.out⟩
end Go.Proofs.YtbipeakinmbdiaaGreatDoor
