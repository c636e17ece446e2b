/-
  Law: the listing of any block.
-/
import Derived.Test.YtbipeakinmbdiaaGreatDoorKv
import Derived.Test.YtbipeakinmbdiaaGreatDoorKz
namespace Go.Proofs.YtbipeakinmbdiaaGreatDoor
open Go.RowKit

set_option maxRecDepth 100000 in
set_option maxHeartbeats 1000000 in
theorem law_texts (b : Bk) (A : Option Addr) (c : Nat) (w : World) (hE : Env w) (ha : InsAt w w.heap.size A b.code.length b.code) (hr : RgB b) :
    Calls Tryz.prog 7 #[b.v A c] w fun e w' => e = .returned (.bool true) ∧ Below w.heap.size w w' := by
  obtain ⟨w1, hw1⟩ : ∃ X, Hid (X = w.alloc (.cells (bkC b A b.code.length c) 28)) := ⟨_, rfl⟩
  obtain ⟨p, hp⟩ : ∃ p, Hid (p = w.heap.size) := ⟨_, rfl⟩
  have HP := Lib.hid (show Blk w1 p 28 (bkC b A b.code.length c) by rw [hw1.out, hp.out]; exact Blk.new _ _ _)
  have HK := Lib.hid (show Below w.heap.size w w1 by rw [hw1.out]; exact bAlloc _ _)
  have HE := Lib.hid (hE.next HK.out)
  have HA := Lib.hid (ha.next HK.out)
  have HR := Lib.hid hr
  clear hE ha hr
  go_enter Tryz.func7, Tryz.ntmps7
  go_upto_region 1 with fail
  rw [← hw1.out, ← hp.out]
  have t0 := HP.out.cell 0
  have t1 := HP.out.cell 1
  have t2 := HP.out.cell 2
  have t3 := HP.out.cell 3
  have t4 := HP.out.cell 4
  have t5 := HP.out.cell 5
  have t6 := HP.out.cell 6
  have t7 := HP.out.cell 7
  have t8 := HP.out.cell 8
  have tl := HP.out.lt
  simp at t0 t1 t2 t3 t4 t5 t6 t7 t8
  go_wp2_with fail
  refine (text_any b A c w1 HA.out HR.out HE.out).mono ?_
  rintro e w2 ⟨rfl, hb⟩
  have HK2 := Lib.hid (bNext HK.out hb)
  have HP2 := Lib.hid (HP.out.next hb)
  have HA2 := Lib.hid (HA.out.next hb)
  have HE2 := Lib.hid (HE.out.next hb)
  clear hb t0 t1 t2 t3 t4 t5 t6 t7 t8 tl
  obtain ⟨s, hs⟩ : ∃ s, Hid (s = S (textV b).1) := ⟨_, rfl⟩
  obtain ⟨m, hm⟩ : ∃ s, Hid (s = (textV b).2) := ⟨_, rfl⟩
  rw [← hs.out, ← hm.out]
  have t0 := HP2.out.cell 0
  have t1 := HP2.out.cell 1
  have t2 := HP2.out.cell 2
  have t3 := HP2.out.cell 3
  have t4 := HP2.out.cell 4
  have t5 := HP2.out.cell 5
  have t6 := HP2.out.cell 6
  have t7 := HP2.out.cell 7
  have t8 := HP2.out.cell 8
  have tl := HP2.out.lt
  simp at t0 t1 t2 t3 t4 t5 t6 t7 t8
  go_wp2_with fail
  refine (Text_any b A c w2 HA2.out HR.out).mono ?_
  rintro e w3 ⟨rfl, hb⟩
  have HK3 := Lib.hid (bNext HK2.out hb)
  have HE3 := Lib.hid (HE2.out.next hb)
  rw [← hs.out, ← hm.out]
  clear hb t0 t1 t2 t3 t4 t5 t6 t7 t8 tl
  go_wp2_with fail
  refine (awake_any w3 HE3.out).mono ?_
  rintro e w4 ⟨rfl, hb⟩
  have HK4 := Lib.hid (bNext HK3.out hb)
  clear hb
  go_wp2_with fail
  go_ret
  exact ⟨rfl, HK4.out⟩
end Go.Proofs.YtbipeakinmbdiaaGreatDoor
