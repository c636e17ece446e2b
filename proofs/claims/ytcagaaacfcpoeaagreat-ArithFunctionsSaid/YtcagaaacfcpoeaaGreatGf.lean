/-
  Walk: the law of Eval.
-/
import Derived.Test.YtcagaaacfcpoeaaGreatGd
namespace Go.Proofs.YtcagaaacfcpoeaaGreat
open Go.RowKit

theorem zeroB_zero : zeroB zeroT = true := by simp [zeroB, Tm.kind, Tm.n, Tm.name, Tm.args, ByteArray.toList_eq]
theorem evT_same (t : Tm) : eqV (evT t).1 (evT t).1 (evT t).2.1 (evT t).2.1 (evT t).2.2 (evT t).2.2 = true := by
  unfold eqV
  rw [if_pos ⟨rfl, rfl⟩]
  cases hv : validT t
  · rw [evT_bad hv]; exact zeroB_zero
  · cases ht : valT t with
    | error b =>
      rw [evT_err hv ht]
      exact sameT_iff.2 ⟨valT_ball t b ht, rfl⟩
    | ok n => rw [evT_ok hv ht]; exact zeroB_zero
set_option maxHeartbeats 4000000 in
theorem law_evals (t : Tm) (A : Option Addr) (c : Nat) (w : World) (hrg : rngT t = true) (ha : ArgsAt w (Old w.heap.size) A t.args) :
    Calls Tryz.prog 3 #[t.v A c] w fun e w' => e = .returned (.bool true) ∧ Below w.heap.size w w' := by
  have HA := Lib.hid ha
  have HEV := Lib.hid (evT_same t)
  clear ha
  obtain ⟨w0, hw0⟩ : ∃ X, Hid (X = w.alloc (.cells #[.int .i64 t.kind, .int .i64 t.n, .string t.name, .slice A t.args.length c] 24)) := ⟨_, rfl⟩
  obtain ⟨q, hq⟩ : ∃ q, Hid (q = w.heap.size) := ⟨_, rfl⟩
  have HB0 := Lib.hid (show Below w.heap.size w w0 by rw [hw0.out]; exact bAlloc w _)
  have HK0 := Lib.hid (show Blk w0 q 24 #[.int .i64 t.kind, .int .i64 t.n, .string t.name, .slice A t.args.length c] by rw [hw0.out, hq.out]; exact Blk.new w _ _)
  have HFA := Lib.hid (show ∀ w', Below w0.heap.size w0 w' → w'.cell? ⟨q, 0, none⟩ = some (.int .i64 t.kind) ∧ w'.cell? ⟨q, 1, none⟩ = some (.int .i64 t.n) ∧ w'.cell? ⟨q, 2, none⟩ = some (.string t.name) ∧ w'.cell? ⟨q, 3, none⟩ = some (.slice A t.args.length c) ∧ q < w'.heap.size from fun w' hb => by
    have h := BlkNext HK0.out hb
    have e0 := h.cell 0
    have e1 := h.cell 1
    have e2 := h.cell 2
    have e3 := h.cell 3
    simp at e0 e1 e2 e3
    exact ⟨e0, e1, e2, e3, h.lt⟩)
  have HW0 := Lib.hid (Below.refl w0.heap.size w0)
  go_enter Tryz.func3, Tryz.ntmps3
  go_upto_region 1 with fail
  rw [← hw0.out, ← hq.out]
  clear hw0
  obtain ⟨e0, e1, e2, e3, el⟩ := HFA.out _ HW0.out
  go_wp2_with fail
  have hc1 := eval6_any t A c w0 hrg (ArgsNext HA.out HB0.out)
  have hr1 : ∀ w, rngT t = true → ArgsAt w (Old w.heap.size) A t.args → Calls Tryz.prog 7 #[t.v A c] w fun e w' => EvR w (evT t) e w' ∧ Below w.heap.size w w' := fun w h1 h2 => reval7_any t A c w h1 h2
  obtain ⟨⟨n, b, code⟩, hx⟩ : ∃ r, evT t = r := ⟨_, rfl⟩
  rw [hx] at hc1 hr1 HEV
  have HC1 := Lib.hid hc1
  have HR1 := Lib.hid hr1
  clear hc1 hr1 hx
  refine HC1.out.mono ?_
  rintro e v1 ⟨⟨A1, c1, rfl, ha1⟩, hb⟩
  have HX1 := Lib.hid (ha1.keep (w' := v1) (G := Old v1.heap.size) (fun _ _ => rfl) (fun _ h => h.2))
  clear ha1 e0 e1 e2 e3 el
  go_upto_region 2 with fail
  obtain ⟨w1, hw1⟩ : ∃ X, Hid (X = v1.alloc (.cells #[.int .i64 b.kind, .int .i64 b.n, .string b.name, .slice A1 b.args.length c1] 24)) := ⟨_, rfl⟩
  obtain ⟨g1, hg1⟩ : ∃ q, Hid (q = v1.heap.size) := ⟨_, rfl⟩
  rw [← hw1.out, ← hg1.out]
  have hb1 : Below v1.heap.size v1 w1 := by rw [hw1.out]; exact bAlloc _ _
  have HW1 := Lib.hid (bNext hb hb1)
  have HB1 := Lib.hid (bNext HB0.out HW1.out)
  have HK1 := Lib.hid (show Blk w1 g1 24 #[.int .i64 b.kind, .int .i64 b.n, .string b.name, .slice A1 b.args.length c1] by rw [hw1.out, hg1.out]; exact Blk.new _ _ _)
  clear hw1
  have HX2 := Lib.hid (ArgsNext HX1.out hb1)
  clear hb hb1
  obtain ⟨e0, e1, e2, e3, el⟩ := HFA.out _ HW1.out
  go_wp2_with fail
  refine (HR1.out w1 hrg (ArgsNext HA.out HB1.out)).mono ?_
  rintro e v2 ⟨⟨A2, c2, rfl, ha2⟩, hb⟩
  have HY1 := Lib.hid (ha2.keep (w' := v2) (G := Old v2.heap.size) (fun _ _ => rfl) (fun _ h => h.2))
  have HX3 := Lib.hid (ArgsNext HX2.out hb)
  have HK1' := Lib.hid (BlkNext HK1.out hb)
  have HWv := Lib.hid (bNext HW1.out hb)
  clear ha2 hb e0 e1 e2 e3 el
  go_upto_region 3 with fail
  obtain ⟨w2, hw2⟩ : ∃ X, Hid (X = v2.alloc (.cells #[.int .i64 b.kind, .int .i64 b.n, .string b.name, .slice A2 b.args.length c2] 24)) := ⟨_, rfl⟩
  obtain ⟨g2, hg2⟩ : ∃ q, Hid (q = v2.heap.size) := ⟨_, rfl⟩
  rw [← hw2.out, ← hg2.out]
  have hb2 : Below v2.heap.size v2 w2 := by rw [hw2.out]; exact bAlloc _ _
  have HW2 := Lib.hid (bNext HWv.out hb2)
  have HB2 := Lib.hid (bNext HB0.out HW2.out)
  have HK2 := Lib.hid (show Blk w2 g2 24 #[.int .i64 b.kind, .int .i64 b.n, .string b.name, .slice A2 b.args.length c2] by rw [hw2.out, hg2.out]; exact Blk.new _ _ _)
  clear hw2
  have HY2 := Lib.hid (ArgsNext HY1.out hb2)
  have HX4 := Lib.hid (ArgsNext HX3.out hb2)
  have HK1'' := Lib.hid (BlkNext HK1'.out hb2)
  clear hb2
  have r0 := HK1''.out.cell 0
  have f0 := HK1''.out.frozen 0
  have r1 := HK1''.out.cell 1
  have f1 := HK1''.out.frozen 1
  have r2 := HK1''.out.cell 2
  have f2 := HK1''.out.frozen 2
  have r3 := HK1''.out.cell 3
  have f3 := HK1''.out.frozen 3
  have rl := HK1''.out.lt
  simp at r0 r1 r2 r3
  clear f0 f1 f2 f3
  have s0 := HK2.out.cell 0
  have f0 := HK2.out.frozen 0
  have s1 := HK2.out.cell 1
  have f1 := HK2.out.frozen 1
  have s2 := HK2.out.cell 2
  have f2 := HK2.out.frozen 2
  have s3 := HK2.out.cell 3
  have f3 := HK2.out.frozen 3
  have sl := HK2.out.lt
  simp at s0 s1 s2 s3
  clear f0 f1 f2 f3
  go_wp2_with fail
  refine (equal8_any n n b b A1 c1 A2 c2 code code w2 HX4.out HY2.out).mono ?_
  rw [HEV.out]
  rintro e w3 ⟨rfl, hb⟩
  have HB3 := Lib.hid (bNext HB2.out hb)
  clear hb r0 r1 r2 r3 rl s0 s1 s2 s3 sl
  go_wp2_with fail
  refine (example8_any w3).mono ?_
  rintro e w4 ⟨rfl, hb⟩
  have HB4 := Lib.hid (bNext HB3.out hb)
  clear hb
  go_wp2_with fail
  go_ret
  exact ⟨rfl, HB4.out⟩
end Go.Proofs.YtcagaaacfcpoeaaGreat
