/-
  Law: the block of any text.
-/
import Derived.Test.YtbipeakinmbdiaaGreatDoorKv
import Derived.Test.YtbipeakinmbdiaaGreatDoorXLp
import Derived.Test.YtbipeakinmbdiaaGreatDoorXPd
namespace Go.Proofs.YtbipeakinmbdiaaGreatDoor
open Go.RowKit

theorem pv_len (t : List UInt8) : (parseV t).1.code.length ≤ 1000000 := by
  unfold parseV
  split
  · exact Nat.zero_le _
  · split
    · exact Nat.zero_le _
    · split
      · exact Nat.zero_le _
      · split
        · rename_i hv
          have := (va_head hv).2.2
          simp only
          omega
        · exact Nat.zero_le _
set_option maxRecDepth 100000 in
set_option maxHeartbeats 2000000 in
theorem law_parses (t : List UInt8) (w : World) (hE : Env w) : Calls Tryz.prog 8 #[.string (S t)] w fun e w' => e = .returned (.bool true) ∧ Below w.heap.size w w' := by
  have HE := Lib.hid hE
  have HLN := Lib.hid (pv_len t)
  clear hE
  go_enter Tryz.func8, Tryz.ntmps8
  go_wp2_with fail
  refine (parse_all t w HE.out).mono ?_
  rintro e w1 ⟨A, n, c, hn, rfl, ho, hb⟩
  have HO1 := Lib.hid ho
  have HK1 := Lib.hid hb
  have HN := Lib.hid hn
  clear hn ho hb
  obtain ⟨b, hbv⟩ : ∃ b, Hid (b = (parseV t).1) := ⟨_, rfl⟩
  obtain ⟨ln, hln⟩ : ∃ b, Hid (b = (parseV t).2.1) := ⟨_, rfl⟩
  obtain ⟨er, her⟩ : ∃ b, Hid (b = (parseV t).2.2) := ⟨_, rfl⟩
  rw [← hbv.out] at HO1 HN HLN ⊢
  rw [← hln.out, ← her.out]
  go_upto_region 2 with fail
  obtain ⟨w2, hw2⟩ : ∃ X, Hid (X = w1.alloc (.cells (bkC b A b.code.length c) 28)) := ⟨_, rfl⟩
  obtain ⟨p, hp⟩ : ∃ X, Hid (X = w1.heap.size) := ⟨_, rfl⟩
  rw [show w1.alloc (.cells #[.int .i64 b.id, .string b.pn, .int .i64 b.par, .int .i64 b.paux, .int .i64 b.kk, .int .i64 b.kn, .string b.knm, .int .i64 b.kar, .slice A b.code.length c] 28) = w2 from hw2.out.symm, ← hp.out]
  have HB2 := Lib.hid (show Blk w2 p 28 (bkC b A b.code.length c) by rw [hw2.out, hp.out]; exact Blk.new _ _ _)
  have HA2 := Lib.hid (show InsAt w2 w2.heap.size A b.code.length b.code by
    have h := own_ins HO1.out (by have h1 := HN.out; have h2 := HLN.out; omega)
    rw [HN.out] at h
    rw [hw2.out]
    exact h.next (bAlloc _ _))
  have HK2 := Lib.hid (show Below w.heap.size w w2 by rw [hw2.out]; exact bNext HK1.out (bAlloc _ _))
  clear hw2 hp HO1 HK1
  go_wp2_with fail
  refine (Parse_any t w2).mono ?_
  rintro e w3 ⟨A', n', c', hn, rfl, ho, hb⟩
  have HO3 := Lib.hid ho
  have HB3 := Lib.hid (HB2.out.next hb)
  have HA3 := Lib.hid (HA2.out.next hb)
  have HK3 := Lib.hid (bNext HK2.out hb)
  have HN3 := Lib.hid hn
  rw [← hbv.out] at HO3 HN3 ⊢
  rw [← hln.out, ← her.out]
  clear hn ho hb HB2 HA2 HK2
  go_upto_region 3 with fail
  obtain ⟨w4, hw4⟩ : ∃ X, Hid (X = w3.alloc (.cells (bkC b A' b.code.length c') 28)) := ⟨_, rfl⟩
  obtain ⟨q, hq⟩ : ∃ X, Hid (X = w3.heap.size) := ⟨_, rfl⟩
  rw [show w3.alloc (.cells #[.int .i64 b.id, .string b.pn, .int .i64 b.par, .int .i64 b.paux, .int .i64 b.kk, .int .i64 b.kn, .string b.knm, .int .i64 b.kar, .slice A' b.code.length c'] 28) = w4 from hw4.out.symm, ← hq.out]
  have HQ4 := Lib.hid (show Blk w4 q 28 (bkC b A' b.code.length c') by rw [hw4.out, hq.out]; exact Blk.new _ _ _)
  have HB4 := Lib.hid (show Blk w4 p 28 (bkC b A b.code.length c) by rw [hw4.out]; exact HB3.out.alloc _)
  have HA4 := Lib.hid (show InsAt w4 w4.heap.size A b.code.length b.code by rw [hw4.out]; exact HA3.out.next (bAlloc _ _))
  have HC4 := Lib.hid (show InsAt w4 w4.heap.size A' b.code.length b.code by
    have h := own_ins HO3.out (by have h1 := HN3.out; have h2 := HLN.out; omega)
    rw [HN3.out] at h
    rw [hw4.out]
    exact h.next (bAlloc _ _))
  have HK4 := Lib.hid (show Below w.heap.size w w4 by rw [hw4.out]; exact bNext HK3.out (bAlloc _ _))
  clear hw4 hq HB3 HA3 HK3 HO3
  have s0 := HB4.out.cell 0
  have s1 := HB4.out.cell 1
  have s2 := HB4.out.cell 2
  have s3 := HB4.out.cell 3
  have s4 := HB4.out.cell 4
  have s5 := HB4.out.cell 5
  have s6 := HB4.out.cell 6
  have s7 := HB4.out.cell 7
  have s8 := HB4.out.cell 8
  have sl := HB4.out.lt
  simp at s0 s1 s2 s3 s4 s5 s6 s7 s8
  have t0 := HQ4.out.cell 0
  have t1 := HQ4.out.cell 1
  have t2 := HQ4.out.cell 2
  have t3 := HQ4.out.cell 3
  have t4 := HQ4.out.cell 4
  have t5 := HQ4.out.cell 5
  have t6 := HQ4.out.cell 6
  have t7 := HQ4.out.cell 7
  have t8 := HQ4.out.cell 8
  have tl := HQ4.out.lt
  simp at t0 t1 t2 t3 t4 t5 t6 t7 t8
  go_wp2_with fail
  refine (Same_any b b A A' c c' w4 HA4.out HC4.out).mono ?_
  rintro e w5 ⟨rfl, hb⟩
  rw [decide_eq_true (rfl : b = b)]
  have HK5 := Lib.hid (bNext HK4.out hb)
  clear hb s0 s1 s2 s3 s4 s5 s6 s7 s8 sl t0 t1 t2 t3 t4 t5 t6 t7 t8 tl
  go_wp2_with fail
  refine (awake_any w5 (HE.out.next HK5.out)).mono ?_
  rintro e w6 ⟨rfl, hb⟩
  have HK6 := Lib.hid (bNext HK5.out hb)
  clear hb
  go_wp2_with fail
  go_ret
  exact ⟨rfl, HK6.out⟩
end Go.Proofs.YtbipeakinmbdiaaGreatDoor
