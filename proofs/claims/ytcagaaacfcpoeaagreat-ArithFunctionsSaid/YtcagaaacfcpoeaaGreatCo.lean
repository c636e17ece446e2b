/-
  Walks: Canon.
-/
import Derived.Test.YtcagaaacfcpoeaaGreatCn
import Derived.Test.YtcagaaacfcpoeaaGreatCe
import Derived.Test.YtcagaaacfcpoeaaGreatDa
namespace Go.Proofs.YtcagaaacfcpoeaaGreat
open Go.RowKit

set_option maxHeartbeats 4000000 in
theorem canon33_any (t : Tm) (A : Option Addr) (c : Nat) (w : World) (ha : ArgsAt w (Old w.heap.size) A t.args) :
    Calls Tryz.prog 31 #[t.v A c] w fun e w' => NewT w (canonT t) e w' ∧ Below w.heap.size w w' := by
  have hmf : ∀ (fn : Fn) (first cap : Array Value) (w : World), (Instr.makeFunc fn first cap).run Tryz.prog w = .ok (.func fn first cap) w := fun _ _ _ _ => rfl
  have hmm := @run_makeMap Tryz.prog
  obtain ⟨W, HW⟩ : ∃ X, Hid (X = (w.alloc (.cells #[.int .i64 t.kind, .int .i64 t.n, .string t.name, .slice A t.args.length c] 24)).alloc (.cells #[.int .i64 0, .int .i64 0, .string { data := #[] }, .slice none 0 0] 24)) := ⟨_, rfl⟩
  have hbW : Below w.heap.size w W := by rw [HW.out]; exact (bAlloc w _).alloc (by simp) _
  obtain ⟨q, hq⟩ : ∃ q, Hid (q = w.heap.size) := ⟨_, rfl⟩
  obtain ⟨r, hr⟩ : ∃ q, Hid (q = w.heap.size + 1) := ⟨_, rfl⟩
  have hk0 : Blk W q 24 #[.int .i64 t.kind, .int .i64 t.n, .string t.name, .slice A t.args.length c] := by rw [HW.out, hq.out]; exact (Blk.new w _ _).alloc _
  have hk1 : Blk W r 24 #[.int .i64 0, .int .i64 0, .string { data := #[] }, .slice none 0 0] := by
    rw [HW.out, hr.out]
    have h1 := Blk.new (w.alloc (.cells #[.int .i64 t.kind, .int .i64 t.n, .string t.name, .slice A t.args.length c] 24)) 24 #[.int .i64 0, .int .i64 0, .string { data := #[] }, .slice none 0 0]
    rw [World.size_alloc] at h1
    exact h1
  have HA := Lib.hid ha
  have HB := Lib.hid hbW
  have HK := Lib.hid hk0
  have HR := Lib.hid hk1
  have hqr : q ≠ r := by rw [hq.out, hr.out]; omega
  have hqw : w.heap.size ≤ q := by rw [hq.out]; exact Nat.le_refl _
  have hrw : w.heap.size ≤ r := by rw [hr.out]; omega
  have e0 := hk0.cell 0
  have e1 := hk0.cell 1
  have e2 := hk0.cell 2
  have e3 := hk0.cell 3
  have el := hk0.lt
  simp at e0 e1 e2 e3
  clear ha hbW hk0 hk1
  go_enter Tryz.func31, Tryz.ntmps31
  go_upto_region 1 with fail
  rw [← HW.out, ← hr.out, ← hq.out]
  clear HW
  go_wp2_with fail
  refine (validP_any t A c W (ArgsNext HA.out HB.out)).mono ?_
  rintro e w1 ⟨rfl, hb1⟩
  have HB1 := Lib.hid (bNext HB.out hb1)
  have HR1 := Lib.hid (BlkNext HR.out hb1)
  have HK1 := Lib.hid (BlkNext HK.out hb1)
  clear e0 e1 e2 e3 el hb1
  cases hv : validT t
  · have HV := Lib.hid (show canonT t = zeroT by unfold canonT; rw [hv]; rfl)
    clear hv
    have r0 := HR1.out.cell 0
    have f0 := HR1.out.frozen 0
    have r1 := HR1.out.cell 1
    have f1 := HR1.out.frozen 1
    have r2 := HR1.out.cell 2
    have f2 := HR1.out.frozen 2
    have r3 := HR1.out.cell 3
    have f3 := HR1.out.frozen 3
    have rl := HR1.out.lt
    simp at r0 r1 r2 r3
    go_wp2_with fail
    refine bodyPost_ret (v := Tm.v zeroT none 0) (by simp only [results, Tryz.results31, Tm.kind, Tm.n, Tm.name, Tm.args]; go_simp; exact ⟨rfl, rfl, rfl, rfl⟩) rfl ⟨by rw [HV.out]; exact ⟨none, 0, rfl, .nil _⟩, ?_⟩
    repeat refine Below.setCell ?_ hrw _
    exact HB1.out
  · have HV := Lib.hid (show canonT t = canT t by unfold canonT; rw [hv]; rfl)
    have hok := validT_ok hv
    have HID := Lib.hid (apT_can hok.1)
    have HOK := Lib.hid hok
    clear hv hok
    go_upto_region 4 with fail
    obtain ⟨w2, hw2⟩ : ∃ X, Hid (X = (w1.alloc (.map #[] 0)).alloc (.cells #[.map (some w1.heap.size)] 75)) := ⟨_, rfl⟩
    obtain ⟨gm, hgm⟩ : ∃ q, Hid (q = w1.heap.size) := ⟨_, rfl⟩
    obtain ⟨pm, hpm⟩ : ∃ q, Hid (q = w1.heap.size + 1) := ⟨_, rfl⟩
    rw [← hw2.out, ← hpm.out, ← hgm.out]
    have hb2 : Below w1.heap.size w1 w2 := by rw [hw2.out]; exact (bAlloc w1 _).alloc (by simp) _
    have hik : IK pm gm [] w2 := by
      refine ⟨by rw [hpm.out, hgm.out]; omega, ?_, ?_⟩
      · rw [hw2.out, hpm.out, hgm.out]
        have h := Blk.new (w1.alloc (.map #[] 0)) 75 #[.map (some w1.heap.size)]
        rw [World.size_alloc] at h
        exact h
      · rw [hw2.out, hgm.out]
        exact (MapP.new w1).stay (Below.heap_alloc _ _ _ (by simp))
    have hk2 := BlkNext HK1.out hb2
    have HR2 := Lib.hid (BlkNext HR1.out hb2)
    have HB2 := Lib.hid (bNext HB1.out hb2)
    have e0 := hk2.cell 0
    have e1 := hk2.cell 1
    have e2 := hk2.cell 2
    have e3 := hk2.cell 3
    have el := hk2.lt
    simp at e0 e1 e2 e3
    have hgr : r ≠ gm := by rw [hgm.out]; have := HR1.out.lt; omega
    have hgw : w.heap.size ≤ gm := by rw [hgm.out]; exact HB1.out.size
    have HX := Lib.hid (applyK_any gm pm _ t [] (Nat.lt_succ_self _) HOK.out.2 (by have := HOK.out.2; simp; omega) HOK.out.1 A c w2 (by rw [hgm.out, hw2.out]; simp; omega) (by rw [hpm.out, hw2.out]; simp) hik (HA.out.keep (w' := w2) (G := Nq w2 gm) (fun b h => HB2.out.block b h) (fun b h => ⟨Nat.lt_of_lt_of_le h HB2.out.size, by have h' : b < w.heap.size := h; omega⟩)))
    clear hk2 hb2 hik hw2
    go_wp2_with fail
    refine HX.out.mono ?_
    rintro e w3 ⟨⟨A2, c2, rfl, ha2⟩, -, hk3⟩
    rw [HID.out] at ha2 ⊢
    have HA2 := Lib.hid ha2
    have HB3 := Lib.hid (HB2.out.trans (hk3.low hgw HB2.out.size))
    have hz1 := HB2.out.size
    have HR3 := Lib.hid (show Blk w3 r 24 #[.int .i64 0, .int .i64 0, .string { data := #[] }, .slice none 0 0] from (hk3.block r HR2.out.lt hgr).trans HR2.out)
    have hrl1 := HR2.out.lt
    clear ha2 hk3 e0 e1 e2 e3 el
    have r0 := HR3.out.cell 0
    have f0 := HR3.out.frozen 0
    have r1 := HR3.out.cell 1
    have f1 := HR3.out.frozen 1
    have r2 := HR3.out.cell 2
    have f2 := HR3.out.frozen 2
    have r3 := HR3.out.cell 3
    have f3 := HR3.out.frozen 3
    have rl := HR3.out.lt
    simp at r0 r1 r2 r3
    go_wp2_with fail
    refine bodyPost_ret (v := (canT t).v A2 c2) (by simp only [results, Tryz.results31]; go_simp) rfl ⟨?_, ?_⟩
    · rw [HV.out]
      refine ⟨A2, c2, rfl, ?_⟩
      refine HA2.out.keep (fun b hb => ?_) (fun b hb => ⟨by have := hb.1; omega, by have := hb.2; simpa using this⟩)
      repeat rw [heap_setCell_other _ _ _ _ (by have := hb.1; simp; omega)]
    · repeat refine Below.setCell ?_ hrw _
      exact HB3.out
end Go.Proofs.YtcagaaacfcpoeaaGreat
