/-
  The walk of the law IndexBuilds.
-/
import Derived.Test.YtpkpdjekoghkcaaWn
namespace Go.Proofs.Ytpkpdjekoghkcaa
open Go.RowKit

set_option maxRecDepth 100000 in
set_option maxHeartbeats 1000000 in
theorem law3_any (A : Option Addr) (n c : Nat) (ks : List K) (w : World) (ha : KeysAt w w.heap.size A n ks) :
    Calls Try.prog 3 #[.slice A n c] w fun e w' => e = .returned (.bool true) ∧ Below w.heap.size w w' := by
  go_enter Try.func3, Try.ntmps3
  go_wp2_with fail
  refine (Build_any A n c ks _ ha).mono ?_
  rintro e w1 ⟨⟨v, rfl, hv⟩, hb1⟩
  obtain ⟨A0, c0, A1, c1, A2, c2, rfl, ha0, ha1, ha2⟩ := hv
  obtain ⟨V, HV⟩ : ∃ V, Hid (V = w1.alloc (.cells #[.slice A0 (buildIx ks).all.length c0, .slice A1 (buildIx ks).rows.length c1, .slice A2 (buildIx ks).rest.length c2] 26)) := ⟨_, rfl⟩
  have q1 : Blk V w1.heap.size 26 #[.slice A0 (buildIx ks).all.length c0, .slice A1 (buildIx ks).rows.length c1, .slice A2 (buildIx ks).rest.length c2] := by rw [HV.out]; exact Blk.new _ _ _
  have hbV : Below w.heap.size w V := by rw [HV.out]; exact bNext hb1 (bAlloc _ _)
  have hbX : Below w1.heap.size w1 V := by rw [HV.out]; exact bAlloc _ _
  have hx : IxAt w1 w1.heap.size (.agg #[.slice A0 (buildIx ks).all.length c0, .slice A1 (buildIx ks).rows.length c1, .slice A2 (buildIx ks).rest.length c2]) (buildIx ks) := ⟨A0, c0, A1, c1, A2, c2, rfl, ha0, ha1, ha2⟩
  have HX := Lib.hid ((hx.below hbX).more hbX.size)
  have HBV := Lib.hid hbV
  obtain ⟨N, HN⟩ : ∃ N, Hid (N = w1.heap.size) := ⟨_, rfl⟩
  rw [← HN.out] at q1
  have HKV := Lib.hid ((ha.below hbV).more hbV.size)
  clear ha0 ha1 ha2 hx hbX hbV hb1
  go_wp2_with fail
  rw [← HV.out, ← HN.out]
  refine (refBuild_any A n c ks _ HKV.out).mono ?_
  rintro e w2 ⟨⟨v, rfl, hv⟩, hb2⟩
  obtain ⟨B0, d0, B1, d1, B2, d2, rfl, hb0', hb1', hb2'⟩ := hv
  obtain ⟨U, HU⟩ : ∃ U, Hid (U = w2.alloc (.cells #[.slice B0 (buildIx ks).all.length d0, .slice B1 (buildIx ks).rows.length d1, .slice B2 (buildIx ks).rest.length d2] 26)) := ⟨_, rfl⟩
  have q2 : Blk U w2.heap.size 26 #[.slice B0 (buildIx ks).all.length d0, .slice B1 (buildIx ks).rows.length d1, .slice B2 (buildIx ks).rest.length d2] := by rw [HU.out]; exact Blk.new _ _ _
  have hbU : Below w2.heap.size w2 U := by rw [HU.out]; exact bAlloc _ _
  have q1' := q1.below hb2 q1.lt
  have hy : IxAt w2 w2.heap.size (.agg #[.slice B0 (buildIx ks).all.length d0, .slice B1 (buildIx ks).rows.length d1, .slice B2 (buildIx ks).rest.length d2]) (buildIx ks) := ⟨B0, d0, B1, d1, B2, d2, rfl, hb0', hb1', hb2'⟩
  have HY := Lib.hid ((hy.below hbU).more hbU.size)
  have hbVU := bNext hb2 hbU
  have HX2 := Lib.hid ((HX.out.below hbVU).more hbVU.size)
  have HBU := Lib.hid (bNext HBV.out hbVU)
  have x0 : w2.cell? ⟨N, 0, none⟩ = some (.slice A0 (buildIx ks).all.length c0) := by rw [q1'.cell]; rfl
  have x1 : w2.cell? ⟨N, 1, none⟩ = some (.slice A1 (buildIx ks).rows.length c1) := by rw [q1'.cell]; rfl
  have x2 : w2.cell? ⟨N, 2, none⟩ = some (.slice A2 (buildIx ks).rest.length c2) := by rw [q1'.cell]; rfl
  have zN := q1'.lt
  clear hb0' hb1' hb2' hy hbU hbVU hb2 q1 q1' q2
  go_wp2_with fail
  rw [← HU.out]
  refine (same13_any _ _ _ _ _ HX2.out HY.out).mono ?_
  rintro e w3 ⟨rfl, hb3⟩
  rw [show sameIx (buildIx ks) (buildIx ks) = true from decide_eq_true rfl]
  have HB3 := Lib.hid (bNext HBU.out hb3)
  clear hb3
  go_wp2_with fail
  refine (example_any _).mono ?_
  rintro e w4 ⟨rfl, hb4⟩
  have HB4 := Lib.hid (bNext HB3.out hb4)
  clear hb4
  go_wp2_with fail
  go_ret
  exact ⟨rfl, HB4.out⟩
end Go.Proofs.Ytpkpdjekoghkcaa
