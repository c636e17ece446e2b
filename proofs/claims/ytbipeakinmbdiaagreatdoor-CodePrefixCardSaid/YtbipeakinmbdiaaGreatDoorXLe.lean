/-
  Law: beginnings and continuations of blocks.
-/
import Derived.Test.YtbipeakinmbdiaaGreatDoorKv
import Derived.Test.YtbipeakinmbdiaaGreatDoorXh
import Derived.Test.YtbipeakinmbdiaaGreatDoorXLh
namespace Go.Proofs.YtbipeakinmbdiaaGreatDoor
open Go.RowKit

theorem lit_ins (w : World) (x : In) : InsAt (w.alloc (.cells #[.int .i64 x.op, .int .i64 x.r, .int .i64 x.a, .int .i64 x.n, .string x.nm, .int .i64 x.ar] 34)) (w.heap.size + 1) (some ⟨w.heap.size, 0, none⟩) 1 [x] := by
  refine ⟨⟨rfl, by omega⟩, fun _ => ⟨w.heap.size, 0, rfl, by omega, fun i y hy => ?_⟩⟩
  have h := BoxI.new w x
  match i, hy with
  | 0, hy => injection hy with hy; subst hy; exact ⟨Blk.cell h 0, Blk.cell h 1, Blk.cell h 2, Blk.cell h 3, Blk.cell h 4, Blk.cell h 5⟩
theorem InsAt.take {w : World} {B n k : Nat} {A : Option Addr} {l : List In} (h : InsAt w B A n l) (hk : k ≤ n) : InsAt w B A k (l.take k) := by
  refine ⟨⟨by rw [List.length_take, h.len]; omega, Nat.le_trans hk h.1.2⟩, fun h0 => ?_⟩
  obtain ⟨b, off, e, hb, hc⟩ := h.2 (by omega)
  refine ⟨b, off, e, hb, fun i x hx => hc i x ?_⟩
  rw [List.getElem?_take] at hx
  split at hx
  · exact hx
  · cases hx
set_option maxRecDepth 100000 in
set_option maxHeartbeats 8000000 in
theorem law_prefix (b : Bk) (A : Option Addr) (c : Nat) (at0 : Int) (x : In) (w : World) (hE : Env w) (ha : InsAt w w.heap.size A b.code.length b.code) (hc : CapOk A b.code.length c) (hz : b.code.length * 56 ≤ 140737488355328) (hat : 0 ≤ at0 ∧ at0 ≤ 65535) :
    Calls Tryz.prog 10 #[b.v A c, .int .u16 at0, x.v] w fun e w' => e = .returned (.bool true) ∧ Below w.heap.size w w' := by
  obtain ⟨w1, hw1⟩ : ∃ X, Hid (X = (w.alloc (.cells (bkC b A b.code.length c) 28)).alloc (.cells #[.int .i64 x.op, .int .i64 x.r, .int .i64 x.a, .int .i64 x.n, .string x.nm, .int .i64 x.ar] 34)) := ⟨_, rfl⟩
  obtain ⟨p, hp⟩ : ∃ p, Hid (p = w.heap.size) := ⟨_, rfl⟩
  obtain ⟨q, hq⟩ : ∃ p, Hid (p = w.heap.size + 1) := ⟨_, rfl⟩
  have HP := Lib.hid (show Blk w1 p 28 (bkC b A b.code.length c) by rw [hw1.out, hp.out]; exact (Blk.new _ _ _).alloc _)
  have HX := Lib.hid (show BoxI w1 q x by
    rw [hw1.out, hq.out]
    have h1 := BoxI.new (w.alloc (.cells (bkC b A b.code.length c) 28)) x
    rw [World.size_alloc] at h1
    exact h1)
  have HK := Lib.hid (show Below w.heap.size w w1 by rw [hw1.out]; exact (bAlloc _ _).alloc (by simp) _)
  have HE := Lib.hid (hE.next HK.out)
  have HA := Lib.hid (ha.next HK.out)
  have HC := Lib.hid hc
  have HZ := Lib.hid hz
  have HAT := Lib.hid hat
  clear hE ha hc hz hat
  go_enter Tryz.func10, Tryz.ntmps10
  go_upto_region 1 with fail
  rw [← hw1.out, ← hq.out, ← hp.out]
  clear hw1 hq hp
  have t0 := HP.out.cell 0
  have t1 := HP.out.cell 1
  have t2 := HP.out.cell 2
  have t3 := HP.out.cell 3
  have t4 := HP.out.cell 4
  have t5 := HP.out.cell 5
  have t6 := HP.out.cell 6
  have t7 := HP.out.cell 7
  have t8 := HP.out.cell 8
  have tl := HP.out.lt
  simp at t0 t1 t2 t3 t4 t5 t6 t7 t8
  go_wp2_with fail
  refine (valid_any b A c w1 HA.out).mono ?_
  rintro e w2 ⟨rfl, hb⟩
  have HK2 := Lib.hid (bNext HK.out hb)
  have HE2 := Lib.hid (HE.out.next hb)
  have HP2 := Lib.hid (HP.out.next hb)
  have HX2 := Lib.hid (BlkNext HX.out hb)
  have HA2 := Lib.hid (HA.out.next hb)
  clear hb t0 t1 t2 t3 t4 t5 t6 t7 t8 tl HA HP HX HE
  obtain ⟨v, hv⟩ : ∃ v, v = vaP b := ⟨_, rfl⟩
  rw [← hv]
  cases v
  · clear hv
    go_wp2_with fail
    refine (awake_any _ HE2.out).mono ?_
    rintro e w3 ⟨rfl, hb⟩
    have HK3 := Lib.hid (bNext HK2.out hb)
    clear hb
    go_wp2_with fail
    go_ret
    exact ⟨rfl, HK3.out⟩
  · have HV := Lib.hid hv.symm
    clear hv
    go_upto_region 3 with fail
    go_cut [7, 8] from 7 to 16 (fun s7 s8 wx => ∃ p7 p8 A1 A2 c1 c2, s7 = .pointer (some ⟨p7, 0, none⟩) ∧ s8 = .pointer (some ⟨p8, 0, none⟩) ∧ Hid (TwoC w2.drew wx b p7 p8 A1 A2 c1 c2))
    case first =>
      obtain ⟨w0, hw0⟩ : ∃ X, Hid (X = w2.drew) := ⟨_, rfl⟩
      obtain ⟨z0, hz0⟩ : ∃ X, Hid (X = w0.heap.size) := ⟨_, rfl⟩
      refine wp_region_N (fun w' => Below z0 w0 w') (fun _ => true) (by kernel_rfl) ?_
      rw [← hw0.out]
      have hS0 : Below z0 w0 w0 := Below.refl _ _
      have HB0 : Below w2.heap.size w2 w0 := by rw [hw0.out]; exact bDrew _
      have HP0 := Lib.hid (HP2.out.next HB0)
      have HA0 := Lib.hid (HA2.out.next HB0)
      have K0 := Lib.hid (Below.refl w0.heap.size w0)
      clear HB0
      refine wpAnyN_take (i := 0) (v := b.v A c) rfl (by kernel_rfl) (by kernel_rfl) (by kernel_rfl) (by kernel_rfl) (fun _ _ _ h => h) (Or.inl ⟨by kernel_rfl, ?hq0⟩) (by assumption) ?_
      case hq0 =>
        intro w hSw
        have hSv : Below z0 w0 w := hSw
        rw [hz0.out] at hSv
        have HQ := Lib.hid (HP0.out.next hSv)
        have t0 := HQ.out.cell 0
        have t1 := HQ.out.cell 1
        have t2 := HQ.out.cell 2
        have t3 := HQ.out.cell 3
        have t4 := HQ.out.cell 4
        have t5 := HQ.out.cell 5
        have t6 := HQ.out.cell 6
        have t7 := HQ.out.cell 7
        have t8 := HQ.out.cell 8
        have tl := HQ.out.lt
        simp at t0 t1 t2 t3 t4 t5 t6 t7 t8
        go_simp
      simp only [Act.put, List.getElem_toArray, List.getElem_cons_zero, List.setIfInBounds_toArray, List.set_cons_zero, List.set_cons_succ]
      refine wpAnyN_take (i := 2) (v := b.v A c) rfl (by kernel_rfl) (by kernel_rfl) (by kernel_rfl) (by kernel_rfl) (fun _ _ _ h => h) (Or.inl ⟨by kernel_rfl, ?hq2⟩) (by assumption) ?_
      case hq2 =>
        intro w hSw
        have hSv : Below z0 w0 w := hSw
        rw [hz0.out] at hSv
        have HQ := Lib.hid (HP0.out.next hSv)
        have t0 := HQ.out.cell 0
        have t1 := HQ.out.cell 1
        have t2 := HQ.out.cell 2
        have t3 := HQ.out.cell 3
        have t4 := HQ.out.cell 4
        have t5 := HQ.out.cell 5
        have t6 := HQ.out.cell 6
        have t7 := HQ.out.cell 7
        have t8 := HQ.out.cell 8
        have tl := HQ.out.lt
        simp at t0 t1 t2 t3 t4 t5 t6 t7 t8
        go_simp
      simp only [Act.put, List.getElem_toArray, List.getElem_cons_zero, List.getElem_cons_succ, List.setIfInBounds_toArray, List.set_cons_zero, List.set_cons_succ]
      clear hS0
      refine wpAnyN_three (i := 1) (j := 4) (k := 5) (by kernel_rfl) rfl rfl rfl (fun K hK => ?_) (fun K hK => ?_) (fun K hK => ?_)
      · simp only [List.getElem_toArray, List.getElem_cons_zero, List.getElem_cons_succ]
        go_simp
        refine (clone_any b A c _ ((HA0.out.next K0.out)) HC.out HZ.out).mono ?_
        rintro e y1 ⟨A1, c1, rfl, ho, hb⟩
        have K1 := Lib.hid (bNext K0.out hb)
        have I1_1 := Lib.hid ho
        have D1 := Lib.hid (show w0.heap.size ≤ y1.heap.size ∧ (∀ g, (Value.slice A1 b.code.length c1).ownBlock = some g → w0.heap.size ≤ g ∧ g < y1.heap.size) from ⟨hb.size, fun g hg => own_lt ho hg⟩)
        refine hK _ _ (fun _ => by show Below z0 w0 _; rw [hz0.out]; exact K1.out) ?_
        (try simp only [Act.put, List.setIfInBounds_toArray, List.set_cons_zero, List.set_cons_succ])
        clear hK hb ho
        refine wpAnyN_three (i := 3) (j := 4) (k := 5) (by kernel_rfl) rfl rfl rfl (fun K hK => ?_) (fun K hK => ?_) (fun K hK => ?_)
        · simp only [List.getElem_toArray, List.getElem_cons_zero, List.getElem_cons_succ]
          go_simp
          refine (clone_any b A c _ ((HA0.out.next K1.out)) HC.out HZ.out).mono ?_
          rintro e y2 ⟨A2, c2, rfl, ho, hb⟩
          have K2 := Lib.hid (bNext K1.out hb)
          have I2_1 := Lib.hid (own_next I1_1.out hb)
          have I2_3 := Lib.hid ho
          have D2 := Lib.hid (show y1.heap.size ≤ y2.heap.size ∧ (∀ g, (Value.slice A2 b.code.length c2).ownBlock = some g → y1.heap.size ≤ g ∧ g < y2.heap.size) from ⟨hb.size, fun g hg => own_lt ho hg⟩)
          refine hK _ _ (fun _ => by show Below z0 w0 _; rw [hz0.out]; exact K2.out) ?_
          (try simp only [Act.put, List.setIfInBounds_toArray, List.set_cons_zero, List.set_cons_succ])
          clear hK hb ho
          refine wpAnyN_two (i := 4) (j := 5) (by kernel_rfl) rfl rfl (fun K hK => ?_) (fun K hK => ?_)
          · simp only [List.getElem_toArray, List.getElem_cons_zero, List.getElem_cons_succ]
            go_simp
            obtain ⟨y3, hx3⟩ : ∃ X, Hid (X = y2.alloc (.cells (bkC zBk none 0 0) 28)) := ⟨_, rfl⟩
            have hb : Below y2.heap.size y2 y3 := by rw [hx3.out]; exact bAlloc _ _
            have K3 := Lib.hid (bNext K2.out hb)
            have I3_1 := Lib.hid (own_next I2_1.out hb)
            have I3_3 := Lib.hid (own_next I2_3.out hb)
            have I3_4 := Lib.hid (show Blk y3 y2.heap.size 28 (bkC zBk none 0 0) by rw [hx3.out]; exact Blk.new _ _ _)
            have D3 := Lib.hid (show y2.heap.size + 1 = y3.heap.size by rw [hx3.out]; simp)
            rw [← hx3.out]
            clear hx3
            refine hK _ _ (fun _ => by show Below z0 w0 _; rw [hz0.out]; exact K3.out) ?_
            (try simp only [Act.put, List.setIfInBounds_toArray, List.set_cons_zero, List.set_cons_succ])
            clear hK hb
            refine wpAnyN_one (i := 5) (by kernel_rfl) rfl (fun K hK => ?_)
            simp only [List.getElem_toArray, List.getElem_cons_zero, List.getElem_cons_succ]
            go_simp
            obtain ⟨y4, hx4⟩ : ∃ X, Hid (X = y3.alloc (.cells (bkC zBk none 0 0) 28)) := ⟨_, rfl⟩
            have hb : Below y3.heap.size y3 y4 := by rw [hx4.out]; exact bAlloc _ _
            have K4 := Lib.hid (bNext K3.out hb)
            have I4_1 := Lib.hid (own_next I3_1.out hb)
            have I4_3 := Lib.hid (own_next I3_3.out hb)
            have I4_4 := Lib.hid (I3_4.out.next hb)
            have I4_5 := Lib.hid (show Blk y4 y3.heap.size 28 (bkC zBk none 0 0) by rw [hx4.out]; exact Blk.new _ _ _)
            have D4 := Lib.hid (show y3.heap.size + 1 = y4.heap.size by rw [hx4.out]; simp)
            rw [← hx4.out]
            clear hx4
            refine hK _ _ (fun _ => by show Below z0 w0 _; rw [hz0.out]; exact K4.out) ?_
            (try simp only [Act.put, List.setIfInBounds_toArray, List.set_cons_zero, List.set_cons_succ])
            clear hK hb
            obtain ⟨p7, hp7⟩ : ∃ X, Hid (X = y2.heap.size) := ⟨_, rfl⟩
            obtain ⟨p8, hp8⟩ : ∃ X, Hid (X = y3.heap.size) := ⟨_, rfl⟩
            have d1 := D1.out.1
            have d2 := D2.out.1
            have d3 := D3.out
            have d4 := D4.out
            have hp7e := hp7.out
            have hp8e := hp8.out
            have NE := Lib.hid (show p7 ≠ p8 ∧ w0.heap.size ≤ p7 ∧ w0.heap.size ≤ p8 by omega)
            have NA := Lib.hid (show ∀ g, (Value.slice A1 b.code.length c1).ownBlock = some g → g ≠ p7 ∧ g ≠ p8 by intro g hg; have := D1.out.2 g hg; omega)
            have NB := Lib.hid (show ∀ g, (Value.slice A2 b.code.length c2).ownBlock = some g → g ≠ p7 ∧ g ≠ p8 by intro g hg; have := D2.out.2 g hg; omega)
            have NC := Lib.hid (show ∀ g h, (Value.slice A1 b.code.length c1).ownBlock = some g → (Value.slice A2 b.code.length c2).ownBlock = some h → g ≠ h by intro g h hg hh; have := D1.out.2 g hg; have := D2.out.2 h hh; omega)
            have BS := Lib.hid (show w0.heap.size ≤ w0.heap.size ∧ w0.heap.size ≤ y1.heap.size by omega)
            rw [← hp7.out] at I4_4
            rw [← hp8.out] at I4_5
            rw [← hp7.out, ← hp8.out]
            clear d1 d2 d3 d4 hp7e hp8e hp7 hp8
            have t0 := I4_4.out.cell 0
            have t1 := I4_4.out.cell 1
            have t2 := I4_4.out.cell 2
            have t3 := I4_4.out.cell 3
            have t4 := I4_4.out.cell 4
            have t5 := I4_4.out.cell 5
            have t6 := I4_4.out.cell 6
            have t7 := I4_4.out.cell 7
            have t8 := I4_4.out.cell 8
            have tl := I4_4.out.lt
            simp at t0 t1 t2 t3 t4 t5 t6 t7 t8
            have f0 := I4_4.out.frozen 0
            have f1 := I4_4.out.frozen 1
            have f2 := I4_4.out.frozen 2
            have f3 := I4_4.out.frozen 3
            have f4 := I4_4.out.frozen 4
            have f5 := I4_4.out.frozen 5
            have f6 := I4_4.out.frozen 6
            have f7 := I4_4.out.frozen 7
            have f8 := I4_4.out.frozen 8
            refine wpAnyN_one (i := 6) (by kernel_rfl) rfl (fun K hK => ?_)
            simp only [List.getElem_toArray, List.getElem_cons_zero, List.getElem_cons_succ]
            go_simp
            obtain ⟨wa, hwa⟩ : ∃ X, Hid (X = setB y4 p7 b A1 b.code.length c1) := ⟨_, rfl⟩
            have HPa := Lib.hid (show Blk wa p7 28 (bkC b A1 b.code.length c1) by rw [hwa.out]; exact setB_same I4_4.out rfl _ _ _ _)
            have HQa := Lib.hid (show Blk wa p8 28 (bkC zBk none 0 0) by rw [hwa.out]; exact setB_far I4_5.out (fun e => NE.out.1 e.symm) _ _ _ _)
            have HKa := Lib.hid (show Below w0.heap.size w0 wa by rw [hwa.out]; exact setB_below K4.out NE.out.2.1 _ _ _ _)
            have HOa := Lib.hid (show wa.ownsRow w0.heap.size 34 6 (.slice A1 b.code.length c1) b.code.length (aCs b.code) by rw [hwa.out]; exact setB_own (own_base I4_1.out BS.out.1) (fun g hg => (NA.out g hg).1) _ _ _ _)
            have HUa := Lib.hid (show wa.ownsRow w0.heap.size 34 6 (.slice A2 b.code.length c2) b.code.length (aCs b.code) by rw [hwa.out]; exact setB_own (own_base I4_3.out BS.out.2) (fun g hg => (NB.out g hg).1) _ _ _ _)
            refine hK _ _ (fun _ => by change Below z0 w0 (setB y4 p7 b A1 b.code.length c1); rw [← hwa.out, hz0.out]; exact HKa.out) ?_
            change wpAnyN _ _ _ _ _ _ _ _ _ (setB y4 p7 b A1 b.code.length c1)
            rw [← hwa.out]
            (try simp only [Act.put, List.setIfInBounds_toArray, List.set_cons_zero, List.set_cons_succ])
            clear hK t0 t1 t2 t3 t4 t5 t6 t7 t8 tl f0 f1 f2 f3 f4 f5 f6 f7 f8 hwa
            have t0 := HQa.out.cell 0
            have t1 := HQa.out.cell 1
            have t2 := HQa.out.cell 2
            have t3 := HQa.out.cell 3
            have t4 := HQa.out.cell 4
            have t5 := HQa.out.cell 5
            have t6 := HQa.out.cell 6
            have t7 := HQa.out.cell 7
            have t8 := HQa.out.cell 8
            have tl := HQa.out.lt
            simp at t0 t1 t2 t3 t4 t5 t6 t7 t8
            have f0 := HQa.out.frozen 0
            have f1 := HQa.out.frozen 1
            have f2 := HQa.out.frozen 2
            have f3 := HQa.out.frozen 3
            have f4 := HQa.out.frozen 4
            have f5 := HQa.out.frozen 5
            have f6 := HQa.out.frozen 6
            have f7 := HQa.out.frozen 7
            have f8 := HQa.out.frozen 8
            refine wpAnyN_one (i := 7) (by kernel_rfl) rfl (fun K hK => ?_)
            simp only [List.getElem_toArray, List.getElem_cons_zero, List.getElem_cons_succ]
            go_simp
            obtain ⟨wb, hwb⟩ : ∃ X, Hid (X = setB wa p8 b A2 b.code.length c2) := ⟨_, rfl⟩
            have HT := Lib.hid (show TwoC w0 wb b p7 p8 A1 A2 c1 c2 by rw [hwb.out]; exact ⟨setB_below HKa.out NE.out.2.2 _ _ _ _, setB_far HPa.out NE.out.1 _ _ _ _, setB_same HQa.out rfl _ _ _ _, setB_own HOa.out (fun g hg => (NA.out g hg).2) _ _ _ _, setB_own HUa.out (fun g hg => (NB.out g hg).2) _ _ _ _, NE.out, NA.out, NB.out, NC.out⟩)
            refine hK _ _ (fun _ => by change Below z0 w0 (setB wa p8 b A2 b.code.length c2); rw [← hwb.out, hz0.out]; exact HT.out.k) ?_
            change wpAnyN _ _ _ _ _ _ _ _ _ (setB wa p8 b A2 b.code.length c2)
            rw [← hwb.out]
            (try simp only [Act.put, List.setIfInBounds_toArray, List.set_cons_zero, List.set_cons_succ])
            refine wpAnyN_done (by kernel_rfl) ?_ _
            go_wp2_with fail
            go_meet
            exact ⟨_, _, _, _, _, _, rfl, rfl, by rw [← hw0.out]; exact HT⟩
          · simp only [List.getElem_toArray, List.getElem_cons_zero, List.getElem_cons_succ]
            go_simp
            obtain ⟨y5, hx5⟩ : ∃ X, Hid (X = y2.alloc (.cells (bkC zBk none 0 0) 28)) := ⟨_, rfl⟩
            have hb : Below y2.heap.size y2 y5 := by rw [hx5.out]; exact bAlloc _ _
            have K5 := Lib.hid (bNext K2.out hb)
            have I5_1 := Lib.hid (own_next I2_1.out hb)
            have I5_3 := Lib.hid (own_next I2_3.out hb)
            have I5_5 := Lib.hid (show Blk y5 y2.heap.size 28 (bkC zBk none 0 0) by rw [hx5.out]; exact Blk.new _ _ _)
            have D5 := Lib.hid (show y2.heap.size + 1 = y5.heap.size by rw [hx5.out]; simp)
            rw [← hx5.out]
            clear hx5
            refine hK _ _ (fun _ => by show Below z0 w0 _; rw [hz0.out]; exact K5.out) ?_
            (try simp only [Act.put, List.setIfInBounds_toArray, List.set_cons_zero, List.set_cons_succ])
            clear hK hb
            refine wpAnyN_one (i := 4) (by kernel_rfl) rfl (fun K hK => ?_)
            simp only [List.getElem_toArray, List.getElem_cons_zero, List.getElem_cons_succ]
            go_simp
            obtain ⟨y6, hx6⟩ : ∃ X, Hid (X = y5.alloc (.cells (bkC zBk none 0 0) 28)) := ⟨_, rfl⟩
            have hb : Below y5.heap.size y5 y6 := by rw [hx6.out]; exact bAlloc _ _
            have K6 := Lib.hid (bNext K5.out hb)
            have I6_1 := Lib.hid (own_next I5_1.out hb)
            have I6_3 := Lib.hid (own_next I5_3.out hb)
            have I6_5 := Lib.hid (I5_5.out.next hb)
            have I6_4 := Lib.hid (show Blk y6 y5.heap.size 28 (bkC zBk none 0 0) by rw [hx6.out]; exact Blk.new _ _ _)
            have D6 := Lib.hid (show y5.heap.size + 1 = y6.heap.size by rw [hx6.out]; simp)
            rw [← hx6.out]
            clear hx6
            refine hK _ _ (fun _ => by show Below z0 w0 _; rw [hz0.out]; exact K6.out) ?_
            (try simp only [Act.put, List.setIfInBounds_toArray, List.set_cons_zero, List.set_cons_succ])
            clear hK hb
            obtain ⟨p7, hp7⟩ : ∃ X, Hid (X = y5.heap.size) := ⟨_, rfl⟩
            obtain ⟨p8, hp8⟩ : ∃ X, Hid (X = y2.heap.size) := ⟨_, rfl⟩
            have d1 := D1.out.1
            have d2 := D2.out.1
            have d5 := D5.out
            have d6 := D6.out
            have hp7e := hp7.out
            have hp8e := hp8.out
            have NE := Lib.hid (show p7 ≠ p8 ∧ w0.heap.size ≤ p7 ∧ w0.heap.size ≤ p8 by omega)
            have NA := Lib.hid (show ∀ g, (Value.slice A1 b.code.length c1).ownBlock = some g → g ≠ p7 ∧ g ≠ p8 by intro g hg; have := D1.out.2 g hg; omega)
            have NB := Lib.hid (show ∀ g, (Value.slice A2 b.code.length c2).ownBlock = some g → g ≠ p7 ∧ g ≠ p8 by intro g hg; have := D2.out.2 g hg; omega)
            have NC := Lib.hid (show ∀ g h, (Value.slice A1 b.code.length c1).ownBlock = some g → (Value.slice A2 b.code.length c2).ownBlock = some h → g ≠ h by intro g h hg hh; have := D1.out.2 g hg; have := D2.out.2 h hh; omega)
            have BS := Lib.hid (show w0.heap.size ≤ w0.heap.size ∧ w0.heap.size ≤ y1.heap.size by omega)
            rw [← hp7.out] at I6_4
            rw [← hp8.out] at I6_5
            rw [← hp7.out, ← hp8.out]
            clear d1 d2 d5 d6 hp7e hp8e hp7 hp8
            have t0 := I6_4.out.cell 0
            have t1 := I6_4.out.cell 1
            have t2 := I6_4.out.cell 2
            have t3 := I6_4.out.cell 3
            have t4 := I6_4.out.cell 4
            have t5 := I6_4.out.cell 5
            have t6 := I6_4.out.cell 6
            have t7 := I6_4.out.cell 7
            have t8 := I6_4.out.cell 8
            have tl := I6_4.out.lt
            simp at t0 t1 t2 t3 t4 t5 t6 t7 t8
            have f0 := I6_4.out.frozen 0
            have f1 := I6_4.out.frozen 1
            have f2 := I6_4.out.frozen 2
            have f3 := I6_4.out.frozen 3
            have f4 := I6_4.out.frozen 4
            have f5 := I6_4.out.frozen 5
            have f6 := I6_4.out.frozen 6
            have f7 := I6_4.out.frozen 7
            have f8 := I6_4.out.frozen 8
            refine wpAnyN_one (i := 6) (by kernel_rfl) rfl (fun K hK => ?_)
            simp only [List.getElem_toArray, List.getElem_cons_zero, List.getElem_cons_succ]
            go_simp
            obtain ⟨wa, hwa⟩ : ∃ X, Hid (X = setB y6 p7 b A1 b.code.length c1) := ⟨_, rfl⟩
            have HPa := Lib.hid (show Blk wa p7 28 (bkC b A1 b.code.length c1) by rw [hwa.out]; exact setB_same I6_4.out rfl _ _ _ _)
            have HQa := Lib.hid (show Blk wa p8 28 (bkC zBk none 0 0) by rw [hwa.out]; exact setB_far I6_5.out (fun e => NE.out.1 e.symm) _ _ _ _)
            have HKa := Lib.hid (show Below w0.heap.size w0 wa by rw [hwa.out]; exact setB_below K6.out NE.out.2.1 _ _ _ _)
            have HOa := Lib.hid (show wa.ownsRow w0.heap.size 34 6 (.slice A1 b.code.length c1) b.code.length (aCs b.code) by rw [hwa.out]; exact setB_own (own_base I6_1.out BS.out.1) (fun g hg => (NA.out g hg).1) _ _ _ _)
            have HUa := Lib.hid (show wa.ownsRow w0.heap.size 34 6 (.slice A2 b.code.length c2) b.code.length (aCs b.code) by rw [hwa.out]; exact setB_own (own_base I6_3.out BS.out.2) (fun g hg => (NB.out g hg).1) _ _ _ _)
            refine hK _ _ (fun _ => by change Below z0 w0 (setB y6 p7 b A1 b.code.length c1); rw [← hwa.out, hz0.out]; exact HKa.out) ?_
            change wpAnyN _ _ _ _ _ _ _ _ _ (setB y6 p7 b A1 b.code.length c1)
            rw [← hwa.out]
            (try simp only [Act.put, List.setIfInBounds_toArray, List.set_cons_zero, List.set_cons_succ])
            clear hK t0 t1 t2 t3 t4 t5 t6 t7 t8 tl f0 f1 f2 f3 f4 f5 f6 f7 f8 hwa
            have t0 := HQa.out.cell 0
            have t1 := HQa.out.cell 1
            have t2 := HQa.out.cell 2
            have t3 := HQa.out.cell 3
            have t4 := HQa.out.cell 4
            have t5 := HQa.out.cell 5
            have t6 := HQa.out.cell 6
            have t7 := HQa.out.cell 7
            have t8 := HQa.out.cell 8
            have tl := HQa.out.lt
            simp at t0 t1 t2 t3 t4 t5 t6 t7 t8
            have f0 := HQa.out.frozen 0
            have f1 := HQa.out.frozen 1
            have f2 := HQa.out.frozen 2
            have f3 := HQa.out.frozen 3
            have f4 := HQa.out.frozen 4
            have f5 := HQa.out.frozen 5
            have f6 := HQa.out.frozen 6
            have f7 := HQa.out.frozen 7
            have f8 := HQa.out.frozen 8
            refine wpAnyN_one (i := 7) (by kernel_rfl) rfl (fun K hK => ?_)
            simp only [List.getElem_toArray, List.getElem_cons_zero, List.getElem_cons_succ]
            go_simp
            obtain ⟨wb, hwb⟩ : ∃ X, Hid (X = setB wa p8 b A2 b.code.length c2) := ⟨_, rfl⟩
            have HT := Lib.hid (show TwoC w0 wb b p7 p8 A1 A2 c1 c2 by rw [hwb.out]; exact ⟨setB_below HKa.out NE.out.2.2 _ _ _ _, setB_far HPa.out NE.out.1 _ _ _ _, setB_same HQa.out rfl _ _ _ _, setB_own HOa.out (fun g hg => (NA.out g hg).2) _ _ _ _, setB_own HUa.out (fun g hg => (NB.out g hg).2) _ _ _ _, NE.out, NA.out, NB.out, NC.out⟩)
            refine hK _ _ (fun _ => by change Below z0 w0 (setB wa p8 b A2 b.code.length c2); rw [← hwb.out, hz0.out]; exact HT.out.k) ?_
            change wpAnyN _ _ _ _ _ _ _ _ _ (setB wa p8 b A2 b.code.length c2)
            rw [← hwb.out]
            (try simp only [Act.put, List.setIfInBounds_toArray, List.set_cons_zero, List.set_cons_succ])
            refine wpAnyN_done (by kernel_rfl) ?_ _
            go_wp2_with fail
            go_meet
            exact ⟨_, _, _, _, _, _, rfl, rfl, by rw [← hw0.out]; exact HT⟩
        · simp only [List.getElem_toArray, List.getElem_cons_zero, List.getElem_cons_succ]
          go_simp
          obtain ⟨y7, hx7⟩ : ∃ X, Hid (X = y1.alloc (.cells (bkC zBk none 0 0) 28)) := ⟨_, rfl⟩
          have hb : Below y1.heap.size y1 y7 := by rw [hx7.out]; exact bAlloc _ _
          have K7 := Lib.hid (bNext K1.out hb)
          have I7_1 := Lib.hid (own_next I1_1.out hb)
          have I7_4 := Lib.hid (show Blk y7 y1.heap.size 28 (bkC zBk none 0 0) by rw [hx7.out]; exact Blk.new _ _ _)
          have D7 := Lib.hid (show y1.heap.size + 1 = y7.heap.size by rw [hx7.out]; simp)
          rw [← hx7.out]
          clear hx7
          refine hK _ _ (fun _ => by show Below z0 w0 _; rw [hz0.out]; exact K7.out) ?_
          (try simp only [Act.put, List.setIfInBounds_toArray, List.set_cons_zero, List.set_cons_succ])
          clear hK hb
          refine wpAnyN_two (i := 3) (j := 5) (by kernel_rfl) rfl rfl (fun K hK => ?_) (fun K hK => ?_)
          · simp only [List.getElem_toArray, List.getElem_cons_zero, List.getElem_cons_succ]
            go_simp
            refine (clone_any b A c _ ((HA0.out.next K7.out)) HC.out HZ.out).mono ?_
            rintro e y8 ⟨A8, c8, rfl, ho, hb⟩
            have K8 := Lib.hid (bNext K7.out hb)
            have I8_1 := Lib.hid (own_next I7_1.out hb)
            have I8_4 := Lib.hid (I7_4.out.next hb)
            have I8_3 := Lib.hid ho
            have D8 := Lib.hid (show y7.heap.size ≤ y8.heap.size ∧ (∀ g, (Value.slice A8 b.code.length c8).ownBlock = some g → y7.heap.size ≤ g ∧ g < y8.heap.size) from ⟨hb.size, fun g hg => own_lt ho hg⟩)
            refine hK _ _ (fun _ => by show Below z0 w0 _; rw [hz0.out]; exact K8.out) ?_
            (try simp only [Act.put, List.setIfInBounds_toArray, List.set_cons_zero, List.set_cons_succ])
            clear hK hb ho
            refine wpAnyN_one (i := 5) (by kernel_rfl) rfl (fun K hK => ?_)
            simp only [List.getElem_toArray, List.getElem_cons_zero, List.getElem_cons_succ]
            go_simp
            obtain ⟨y9, hx9⟩ : ∃ X, Hid (X = y8.alloc (.cells (bkC zBk none 0 0) 28)) := ⟨_, rfl⟩
            have hb : Below y8.heap.size y8 y9 := by rw [hx9.out]; exact bAlloc _ _
            have K9 := Lib.hid (bNext K8.out hb)
            have I9_1 := Lib.hid (own_next I8_1.out hb)
            have I9_4 := Lib.hid (I8_4.out.next hb)
            have I9_3 := Lib.hid (own_next I8_3.out hb)
            have I9_5 := Lib.hid (show Blk y9 y8.heap.size 28 (bkC zBk none 0 0) by rw [hx9.out]; exact Blk.new _ _ _)
            have D9 := Lib.hid (show y8.heap.size + 1 = y9.heap.size by rw [hx9.out]; simp)
            rw [← hx9.out]
            clear hx9
            refine hK _ _ (fun _ => by show Below z0 w0 _; rw [hz0.out]; exact K9.out) ?_
            (try simp only [Act.put, List.setIfInBounds_toArray, List.set_cons_zero, List.set_cons_succ])
            clear hK hb
            obtain ⟨p7, hp7⟩ : ∃ X, Hid (X = y1.heap.size) := ⟨_, rfl⟩
            obtain ⟨p8, hp8⟩ : ∃ X, Hid (X = y8.heap.size) := ⟨_, rfl⟩
            have d1 := D1.out.1
            have d7 := D7.out
            have d8 := D8.out.1
            have d9 := D9.out
            have hp7e := hp7.out
            have hp8e := hp8.out
            have NE := Lib.hid (show p7 ≠ p8 ∧ w0.heap.size ≤ p7 ∧ w0.heap.size ≤ p8 by omega)
            have NA := Lib.hid (show ∀ g, (Value.slice A1 b.code.length c1).ownBlock = some g → g ≠ p7 ∧ g ≠ p8 by intro g hg; have := D1.out.2 g hg; omega)
            have NB := Lib.hid (show ∀ g, (Value.slice A8 b.code.length c8).ownBlock = some g → g ≠ p7 ∧ g ≠ p8 by intro g hg; have := D8.out.2 g hg; omega)
            have NC := Lib.hid (show ∀ g h, (Value.slice A1 b.code.length c1).ownBlock = some g → (Value.slice A8 b.code.length c8).ownBlock = some h → g ≠ h by intro g h hg hh; have := D1.out.2 g hg; have := D8.out.2 h hh; omega)
            have BS := Lib.hid (show w0.heap.size ≤ w0.heap.size ∧ w0.heap.size ≤ y7.heap.size by omega)
            rw [← hp7.out] at I9_4
            rw [← hp8.out] at I9_5
            rw [← hp7.out, ← hp8.out]
            clear d1 d7 d8 d9 hp7e hp8e hp7 hp8
            have t0 := I9_4.out.cell 0
            have t1 := I9_4.out.cell 1
            have t2 := I9_4.out.cell 2
            have t3 := I9_4.out.cell 3
            have t4 := I9_4.out.cell 4
            have t5 := I9_4.out.cell 5
            have t6 := I9_4.out.cell 6
            have t7 := I9_4.out.cell 7
            have t8 := I9_4.out.cell 8
            have tl := I9_4.out.lt
            simp at t0 t1 t2 t3 t4 t5 t6 t7 t8
            have f0 := I9_4.out.frozen 0
            have f1 := I9_4.out.frozen 1
            have f2 := I9_4.out.frozen 2
            have f3 := I9_4.out.frozen 3
            have f4 := I9_4.out.frozen 4
            have f5 := I9_4.out.frozen 5
            have f6 := I9_4.out.frozen 6
            have f7 := I9_4.out.frozen 7
            have f8 := I9_4.out.frozen 8
            refine wpAnyN_one (i := 6) (by kernel_rfl) rfl (fun K hK => ?_)
            simp only [List.getElem_toArray, List.getElem_cons_zero, List.getElem_cons_succ]
            go_simp
            obtain ⟨wa, hwa⟩ : ∃ X, Hid (X = setB y9 p7 b A1 b.code.length c1) := ⟨_, rfl⟩
            have HPa := Lib.hid (show Blk wa p7 28 (bkC b A1 b.code.length c1) by rw [hwa.out]; exact setB_same I9_4.out rfl _ _ _ _)
            have HQa := Lib.hid (show Blk wa p8 28 (bkC zBk none 0 0) by rw [hwa.out]; exact setB_far I9_5.out (fun e => NE.out.1 e.symm) _ _ _ _)
            have HKa := Lib.hid (show Below w0.heap.size w0 wa by rw [hwa.out]; exact setB_below K9.out NE.out.2.1 _ _ _ _)
            have HOa := Lib.hid (show wa.ownsRow w0.heap.size 34 6 (.slice A1 b.code.length c1) b.code.length (aCs b.code) by rw [hwa.out]; exact setB_own (own_base I9_1.out BS.out.1) (fun g hg => (NA.out g hg).1) _ _ _ _)
            have HUa := Lib.hid (show wa.ownsRow w0.heap.size 34 6 (.slice A8 b.code.length c8) b.code.length (aCs b.code) by rw [hwa.out]; exact setB_own (own_base I9_3.out BS.out.2) (fun g hg => (NB.out g hg).1) _ _ _ _)
            refine hK _ _ (fun _ => by change Below z0 w0 (setB y9 p7 b A1 b.code.length c1); rw [← hwa.out, hz0.out]; exact HKa.out) ?_
            change wpAnyN _ _ _ _ _ _ _ _ _ (setB y9 p7 b A1 b.code.length c1)
            rw [← hwa.out]
            (try simp only [Act.put, List.setIfInBounds_toArray, List.set_cons_zero, List.set_cons_succ])
            clear hK t0 t1 t2 t3 t4 t5 t6 t7 t8 tl f0 f1 f2 f3 f4 f5 f6 f7 f8 hwa
            have t0 := HQa.out.cell 0
            have t1 := HQa.out.cell 1
            have t2 := HQa.out.cell 2
            have t3 := HQa.out.cell 3
            have t4 := HQa.out.cell 4
            have t5 := HQa.out.cell 5
            have t6 := HQa.out.cell 6
            have t7 := HQa.out.cell 7
            have t8 := HQa.out.cell 8
            have tl := HQa.out.lt
            simp at t0 t1 t2 t3 t4 t5 t6 t7 t8
            have f0 := HQa.out.frozen 0
            have f1 := HQa.out.frozen 1
            have f2 := HQa.out.frozen 2
            have f3 := HQa.out.frozen 3
            have f4 := HQa.out.frozen 4
            have f5 := HQa.out.frozen 5
            have f6 := HQa.out.frozen 6
            have f7 := HQa.out.frozen 7
            have f8 := HQa.out.frozen 8
            refine wpAnyN_one (i := 7) (by kernel_rfl) rfl (fun K hK => ?_)
            simp only [List.getElem_toArray, List.getElem_cons_zero, List.getElem_cons_succ]
            go_simp
            obtain ⟨wb, hwb⟩ : ∃ X, Hid (X = setB wa p8 b A8 b.code.length c8) := ⟨_, rfl⟩
            have HT := Lib.hid (show TwoC w0 wb b p7 p8 A1 A8 c1 c8 by rw [hwb.out]; exact ⟨setB_below HKa.out NE.out.2.2 _ _ _ _, setB_far HPa.out NE.out.1 _ _ _ _, setB_same HQa.out rfl _ _ _ _, setB_own HOa.out (fun g hg => (NA.out g hg).2) _ _ _ _, setB_own HUa.out (fun g hg => (NB.out g hg).2) _ _ _ _, NE.out, NA.out, NB.out, NC.out⟩)
            refine hK _ _ (fun _ => by change Below z0 w0 (setB wa p8 b A8 b.code.length c8); rw [← hwb.out, hz0.out]; exact HT.out.k) ?_
            change wpAnyN _ _ _ _ _ _ _ _ _ (setB wa p8 b A8 b.code.length c8)
            rw [← hwb.out]
            (try simp only [Act.put, List.setIfInBounds_toArray, List.set_cons_zero, List.set_cons_succ])
            refine wpAnyN_done (by kernel_rfl) ?_ _
            go_wp2_with fail
            go_meet
            exact ⟨_, _, _, _, _, _, rfl, rfl, by rw [← hw0.out]; exact HT⟩
          · simp only [List.getElem_toArray, List.getElem_cons_zero, List.getElem_cons_succ]
            go_simp
            obtain ⟨y10, hx10⟩ : ∃ X, Hid (X = y7.alloc (.cells (bkC zBk none 0 0) 28)) := ⟨_, rfl⟩
            have hb : Below y7.heap.size y7 y10 := by rw [hx10.out]; exact bAlloc _ _
            have K10 := Lib.hid (bNext K7.out hb)
            have I10_1 := Lib.hid (own_next I7_1.out hb)
            have I10_4 := Lib.hid (I7_4.out.next hb)
            have I10_5 := Lib.hid (show Blk y10 y7.heap.size 28 (bkC zBk none 0 0) by rw [hx10.out]; exact Blk.new _ _ _)
            have D10 := Lib.hid (show y7.heap.size + 1 = y10.heap.size by rw [hx10.out]; simp)
            rw [← hx10.out]
            clear hx10
            refine hK _ _ (fun _ => by show Below z0 w0 _; rw [hz0.out]; exact K10.out) ?_
            (try simp only [Act.put, List.setIfInBounds_toArray, List.set_cons_zero, List.set_cons_succ])
            clear hK hb
            refine wpAnyN_one (i := 3) (by kernel_rfl) rfl (fun K hK => ?_)
            simp only [List.getElem_toArray, List.getElem_cons_zero, List.getElem_cons_succ]
            go_simp
            refine (clone_any b A c _ ((HA0.out.next K10.out)) HC.out HZ.out).mono ?_
            rintro e y11 ⟨A11, c11, rfl, ho, hb⟩
            have K11 := Lib.hid (bNext K10.out hb)
            have I11_1 := Lib.hid (own_next I10_1.out hb)
            have I11_4 := Lib.hid (I10_4.out.next hb)
            have I11_5 := Lib.hid (I10_5.out.next hb)
            have I11_3 := Lib.hid ho
            have D11 := Lib.hid (show y10.heap.size ≤ y11.heap.size ∧ (∀ g, (Value.slice A11 b.code.length c11).ownBlock = some g → y10.heap.size ≤ g ∧ g < y11.heap.size) from ⟨hb.size, fun g hg => own_lt ho hg⟩)
            refine hK _ _ (fun _ => by show Below z0 w0 _; rw [hz0.out]; exact K11.out) ?_
            (try simp only [Act.put, List.setIfInBounds_toArray, List.set_cons_zero, List.set_cons_succ])
            clear hK hb ho
            obtain ⟨p7, hp7⟩ : ∃ X, Hid (X = y1.heap.size) := ⟨_, rfl⟩
            obtain ⟨p8, hp8⟩ : ∃ X, Hid (X = y7.heap.size) := ⟨_, rfl⟩
            have d1 := D1.out.1
            have d7 := D7.out
            have d10 := D10.out
            have d11 := D11.out.1
            have hp7e := hp7.out
            have hp8e := hp8.out
            have NE := Lib.hid (show p7 ≠ p8 ∧ w0.heap.size ≤ p7 ∧ w0.heap.size ≤ p8 by omega)
            have NA := Lib.hid (show ∀ g, (Value.slice A1 b.code.length c1).ownBlock = some g → g ≠ p7 ∧ g ≠ p8 by intro g hg; have := D1.out.2 g hg; omega)
            have NB := Lib.hid (show ∀ g, (Value.slice A11 b.code.length c11).ownBlock = some g → g ≠ p7 ∧ g ≠ p8 by intro g hg; have := D11.out.2 g hg; omega)
            have NC := Lib.hid (show ∀ g h, (Value.slice A1 b.code.length c1).ownBlock = some g → (Value.slice A11 b.code.length c11).ownBlock = some h → g ≠ h by intro g h hg hh; have := D1.out.2 g hg; have := D11.out.2 h hh; omega)
            have BS := Lib.hid (show w0.heap.size ≤ w0.heap.size ∧ w0.heap.size ≤ y10.heap.size by omega)
            rw [← hp7.out] at I11_4
            rw [← hp8.out] at I11_5
            rw [← hp7.out, ← hp8.out]
            clear d1 d7 d10 d11 hp7e hp8e hp7 hp8
            have t0 := I11_4.out.cell 0
            have t1 := I11_4.out.cell 1
            have t2 := I11_4.out.cell 2
            have t3 := I11_4.out.cell 3
            have t4 := I11_4.out.cell 4
            have t5 := I11_4.out.cell 5
            have t6 := I11_4.out.cell 6
            have t7 := I11_4.out.cell 7
            have t8 := I11_4.out.cell 8
            have tl := I11_4.out.lt
            simp at t0 t1 t2 t3 t4 t5 t6 t7 t8
            have f0 := I11_4.out.frozen 0
            have f1 := I11_4.out.frozen 1
            have f2 := I11_4.out.frozen 2
            have f3 := I11_4.out.frozen 3
            have f4 := I11_4.out.frozen 4
            have f5 := I11_4.out.frozen 5
            have f6 := I11_4.out.frozen 6
            have f7 := I11_4.out.frozen 7
            have f8 := I11_4.out.frozen 8
            refine wpAnyN_one (i := 6) (by kernel_rfl) rfl (fun K hK => ?_)
            simp only [List.getElem_toArray, List.getElem_cons_zero, List.getElem_cons_succ]
            go_simp
            obtain ⟨wa, hwa⟩ : ∃ X, Hid (X = setB y11 p7 b A1 b.code.length c1) := ⟨_, rfl⟩
            have HPa := Lib.hid (show Blk wa p7 28 (bkC b A1 b.code.length c1) by rw [hwa.out]; exact setB_same I11_4.out rfl _ _ _ _)
            have HQa := Lib.hid (show Blk wa p8 28 (bkC zBk none 0 0) by rw [hwa.out]; exact setB_far I11_5.out (fun e => NE.out.1 e.symm) _ _ _ _)
            have HKa := Lib.hid (show Below w0.heap.size w0 wa by rw [hwa.out]; exact setB_below K11.out NE.out.2.1 _ _ _ _)
            have HOa := Lib.hid (show wa.ownsRow w0.heap.size 34 6 (.slice A1 b.code.length c1) b.code.length (aCs b.code) by rw [hwa.out]; exact setB_own (own_base I11_1.out BS.out.1) (fun g hg => (NA.out g hg).1) _ _ _ _)
            have HUa := Lib.hid (show wa.ownsRow w0.heap.size 34 6 (.slice A11 b.code.length c11) b.code.length (aCs b.code) by rw [hwa.out]; exact setB_own (own_base I11_3.out BS.out.2) (fun g hg => (NB.out g hg).1) _ _ _ _)
            refine hK _ _ (fun _ => by change Below z0 w0 (setB y11 p7 b A1 b.code.length c1); rw [← hwa.out, hz0.out]; exact HKa.out) ?_
            change wpAnyN _ _ _ _ _ _ _ _ _ (setB y11 p7 b A1 b.code.length c1)
            rw [← hwa.out]
            (try simp only [Act.put, List.setIfInBounds_toArray, List.set_cons_zero, List.set_cons_succ])
            clear hK t0 t1 t2 t3 t4 t5 t6 t7 t8 tl f0 f1 f2 f3 f4 f5 f6 f7 f8 hwa
            have t0 := HQa.out.cell 0
            have t1 := HQa.out.cell 1
            have t2 := HQa.out.cell 2
            have t3 := HQa.out.cell 3
            have t4 := HQa.out.cell 4
            have t5 := HQa.out.cell 5
            have t6 := HQa.out.cell 6
            have t7 := HQa.out.cell 7
            have t8 := HQa.out.cell 8
            have tl := HQa.out.lt
            simp at t0 t1 t2 t3 t4 t5 t6 t7 t8
            have f0 := HQa.out.frozen 0
            have f1 := HQa.out.frozen 1
            have f2 := HQa.out.frozen 2
            have f3 := HQa.out.frozen 3
            have f4 := HQa.out.frozen 4
            have f5 := HQa.out.frozen 5
            have f6 := HQa.out.frozen 6
            have f7 := HQa.out.frozen 7
            have f8 := HQa.out.frozen 8
            refine wpAnyN_one (i := 7) (by kernel_rfl) rfl (fun K hK => ?_)
            simp only [List.getElem_toArray, List.getElem_cons_zero, List.getElem_cons_succ]
            go_simp
            obtain ⟨wb, hwb⟩ : ∃ X, Hid (X = setB wa p8 b A11 b.code.length c11) := ⟨_, rfl⟩
            have HT := Lib.hid (show TwoC w0 wb b p7 p8 A1 A11 c1 c11 by rw [hwb.out]; exact ⟨setB_below HKa.out NE.out.2.2 _ _ _ _, setB_far HPa.out NE.out.1 _ _ _ _, setB_same HQa.out rfl _ _ _ _, setB_own HOa.out (fun g hg => (NA.out g hg).2) _ _ _ _, setB_own HUa.out (fun g hg => (NB.out g hg).2) _ _ _ _, NE.out, NA.out, NB.out, NC.out⟩)
            refine hK _ _ (fun _ => by change Below z0 w0 (setB wa p8 b A11 b.code.length c11); rw [← hwb.out, hz0.out]; exact HT.out.k) ?_
            change wpAnyN _ _ _ _ _ _ _ _ _ (setB wa p8 b A11 b.code.length c11)
            rw [← hwb.out]
            (try simp only [Act.put, List.setIfInBounds_toArray, List.set_cons_zero, List.set_cons_succ])
            refine wpAnyN_done (by kernel_rfl) ?_ _
            go_wp2_with fail
            go_meet
            exact ⟨_, _, _, _, _, _, rfl, rfl, by rw [← hw0.out]; exact HT⟩
        · simp only [List.getElem_toArray, List.getElem_cons_zero, List.getElem_cons_succ]
          go_simp
          obtain ⟨y12, hx12⟩ : ∃ X, Hid (X = y1.alloc (.cells (bkC zBk none 0 0) 28)) := ⟨_, rfl⟩
          have hb : Below y1.heap.size y1 y12 := by rw [hx12.out]; exact bAlloc _ _
          have K12 := Lib.hid (bNext K1.out hb)
          have I12_1 := Lib.hid (own_next I1_1.out hb)
          have I12_5 := Lib.hid (show Blk y12 y1.heap.size 28 (bkC zBk none 0 0) by rw [hx12.out]; exact Blk.new _ _ _)
          have D12 := Lib.hid (show y1.heap.size + 1 = y12.heap.size by rw [hx12.out]; simp)
          rw [← hx12.out]
          clear hx12
          refine hK _ _ (fun _ => by show Below z0 w0 _; rw [hz0.out]; exact K12.out) ?_
          (try simp only [Act.put, List.setIfInBounds_toArray, List.set_cons_zero, List.set_cons_succ])
          clear hK hb
          refine wpAnyN_two (i := 3) (j := 4) (by kernel_rfl) rfl rfl (fun K hK => ?_) (fun K hK => ?_)
          · simp only [List.getElem_toArray, List.getElem_cons_zero, List.getElem_cons_succ]
            go_simp
            refine (clone_any b A c _ ((HA0.out.next K12.out)) HC.out HZ.out).mono ?_
            rintro e y13 ⟨A13, c13, rfl, ho, hb⟩
            have K13 := Lib.hid (bNext K12.out hb)
            have I13_1 := Lib.hid (own_next I12_1.out hb)
            have I13_5 := Lib.hid (I12_5.out.next hb)
            have I13_3 := Lib.hid ho
            have D13 := Lib.hid (show y12.heap.size ≤ y13.heap.size ∧ (∀ g, (Value.slice A13 b.code.length c13).ownBlock = some g → y12.heap.size ≤ g ∧ g < y13.heap.size) from ⟨hb.size, fun g hg => own_lt ho hg⟩)
            refine hK _ _ (fun _ => by show Below z0 w0 _; rw [hz0.out]; exact K13.out) ?_
            (try simp only [Act.put, List.setIfInBounds_toArray, List.set_cons_zero, List.set_cons_succ])
            clear hK hb ho
            refine wpAnyN_one (i := 4) (by kernel_rfl) rfl (fun K hK => ?_)
            simp only [List.getElem_toArray, List.getElem_cons_zero, List.getElem_cons_succ]
            go_simp
            obtain ⟨y14, hx14⟩ : ∃ X, Hid (X = y13.alloc (.cells (bkC zBk none 0 0) 28)) := ⟨_, rfl⟩
            have hb : Below y13.heap.size y13 y14 := by rw [hx14.out]; exact bAlloc _ _
            have K14 := Lib.hid (bNext K13.out hb)
            have I14_1 := Lib.hid (own_next I13_1.out hb)
            have I14_5 := Lib.hid (I13_5.out.next hb)
            have I14_3 := Lib.hid (own_next I13_3.out hb)
            have I14_4 := Lib.hid (show Blk y14 y13.heap.size 28 (bkC zBk none 0 0) by rw [hx14.out]; exact Blk.new _ _ _)
            have D14 := Lib.hid (show y13.heap.size + 1 = y14.heap.size by rw [hx14.out]; simp)
            rw [← hx14.out]
            clear hx14
            refine hK _ _ (fun _ => by show Below z0 w0 _; rw [hz0.out]; exact K14.out) ?_
            (try simp only [Act.put, List.setIfInBounds_toArray, List.set_cons_zero, List.set_cons_succ])
            clear hK hb
            obtain ⟨p7, hp7⟩ : ∃ X, Hid (X = y13.heap.size) := ⟨_, rfl⟩
            obtain ⟨p8, hp8⟩ : ∃ X, Hid (X = y1.heap.size) := ⟨_, rfl⟩
            have d1 := D1.out.1
            have d12 := D12.out
            have d13 := D13.out.1
            have d14 := D14.out
            have hp7e := hp7.out
            have hp8e := hp8.out
            have NE := Lib.hid (show p7 ≠ p8 ∧ w0.heap.size ≤ p7 ∧ w0.heap.size ≤ p8 by omega)
            have NA := Lib.hid (show ∀ g, (Value.slice A1 b.code.length c1).ownBlock = some g → g ≠ p7 ∧ g ≠ p8 by intro g hg; have := D1.out.2 g hg; omega)
            have NB := Lib.hid (show ∀ g, (Value.slice A13 b.code.length c13).ownBlock = some g → g ≠ p7 ∧ g ≠ p8 by intro g hg; have := D13.out.2 g hg; omega)
            have NC := Lib.hid (show ∀ g h, (Value.slice A1 b.code.length c1).ownBlock = some g → (Value.slice A13 b.code.length c13).ownBlock = some h → g ≠ h by intro g h hg hh; have := D1.out.2 g hg; have := D13.out.2 h hh; omega)
            have BS := Lib.hid (show w0.heap.size ≤ w0.heap.size ∧ w0.heap.size ≤ y12.heap.size by omega)
            rw [← hp7.out] at I14_4
            rw [← hp8.out] at I14_5
            rw [← hp7.out, ← hp8.out]
            clear d1 d12 d13 d14 hp7e hp8e hp7 hp8
            have t0 := I14_4.out.cell 0
            have t1 := I14_4.out.cell 1
            have t2 := I14_4.out.cell 2
            have t3 := I14_4.out.cell 3
            have t4 := I14_4.out.cell 4
            have t5 := I14_4.out.cell 5
            have t6 := I14_4.out.cell 6
            have t7 := I14_4.out.cell 7
            have t8 := I14_4.out.cell 8
            have tl := I14_4.out.lt
            simp at t0 t1 t2 t3 t4 t5 t6 t7 t8
            have f0 := I14_4.out.frozen 0
            have f1 := I14_4.out.frozen 1
            have f2 := I14_4.out.frozen 2
            have f3 := I14_4.out.frozen 3
            have f4 := I14_4.out.frozen 4
            have f5 := I14_4.out.frozen 5
            have f6 := I14_4.out.frozen 6
            have f7 := I14_4.out.frozen 7
            have f8 := I14_4.out.frozen 8
            refine wpAnyN_one (i := 6) (by kernel_rfl) rfl (fun K hK => ?_)
            simp only [List.getElem_toArray, List.getElem_cons_zero, List.getElem_cons_succ]
            go_simp
            obtain ⟨wa, hwa⟩ : ∃ X, Hid (X = setB y14 p7 b A1 b.code.length c1) := ⟨_, rfl⟩
            have HPa := Lib.hid (show Blk wa p7 28 (bkC b A1 b.code.length c1) by rw [hwa.out]; exact setB_same I14_4.out rfl _ _ _ _)
            have HQa := Lib.hid (show Blk wa p8 28 (bkC zBk none 0 0) by rw [hwa.out]; exact setB_far I14_5.out (fun e => NE.out.1 e.symm) _ _ _ _)
            have HKa := Lib.hid (show Below w0.heap.size w0 wa by rw [hwa.out]; exact setB_below K14.out NE.out.2.1 _ _ _ _)
            have HOa := Lib.hid (show wa.ownsRow w0.heap.size 34 6 (.slice A1 b.code.length c1) b.code.length (aCs b.code) by rw [hwa.out]; exact setB_own (own_base I14_1.out BS.out.1) (fun g hg => (NA.out g hg).1) _ _ _ _)
            have HUa := Lib.hid (show wa.ownsRow w0.heap.size 34 6 (.slice A13 b.code.length c13) b.code.length (aCs b.code) by rw [hwa.out]; exact setB_own (own_base I14_3.out BS.out.2) (fun g hg => (NB.out g hg).1) _ _ _ _)
            refine hK _ _ (fun _ => by change Below z0 w0 (setB y14 p7 b A1 b.code.length c1); rw [← hwa.out, hz0.out]; exact HKa.out) ?_
            change wpAnyN _ _ _ _ _ _ _ _ _ (setB y14 p7 b A1 b.code.length c1)
            rw [← hwa.out]
            (try simp only [Act.put, List.setIfInBounds_toArray, List.set_cons_zero, List.set_cons_succ])
            clear hK t0 t1 t2 t3 t4 t5 t6 t7 t8 tl f0 f1 f2 f3 f4 f5 f6 f7 f8 hwa
            have t0 := HQa.out.cell 0
            have t1 := HQa.out.cell 1
            have t2 := HQa.out.cell 2
            have t3 := HQa.out.cell 3
            have t4 := HQa.out.cell 4
            have t5 := HQa.out.cell 5
            have t6 := HQa.out.cell 6
            have t7 := HQa.out.cell 7
            have t8 := HQa.out.cell 8
            have tl := HQa.out.lt
            simp at t0 t1 t2 t3 t4 t5 t6 t7 t8
            have f0 := HQa.out.frozen 0
            have f1 := HQa.out.frozen 1
            have f2 := HQa.out.frozen 2
            have f3 := HQa.out.frozen 3
            have f4 := HQa.out.frozen 4
            have f5 := HQa.out.frozen 5
            have f6 := HQa.out.frozen 6
            have f7 := HQa.out.frozen 7
            have f8 := HQa.out.frozen 8
            refine wpAnyN_one (i := 7) (by kernel_rfl) rfl (fun K hK => ?_)
            simp only [List.getElem_toArray, List.getElem_cons_zero, List.getElem_cons_succ]
            go_simp
            obtain ⟨wb, hwb⟩ : ∃ X, Hid (X = setB wa p8 b A13 b.code.length c13) := ⟨_, rfl⟩
            have HT := Lib.hid (show TwoC w0 wb b p7 p8 A1 A13 c1 c13 by rw [hwb.out]; exact ⟨setB_below HKa.out NE.out.2.2 _ _ _ _, setB_far HPa.out NE.out.1 _ _ _ _, setB_same HQa.out rfl _ _ _ _, setB_own HOa.out (fun g hg => (NA.out g hg).2) _ _ _ _, setB_own HUa.out (fun g hg => (NB.out g hg).2) _ _ _ _, NE.out, NA.out, NB.out, NC.out⟩)
            refine hK _ _ (fun _ => by change Below z0 w0 (setB wa p8 b A13 b.code.length c13); rw [← hwb.out, hz0.out]; exact HT.out.k) ?_
            change wpAnyN _ _ _ _ _ _ _ _ _ (setB wa p8 b A13 b.code.length c13)
            rw [← hwb.out]
            (try simp only [Act.put, List.setIfInBounds_toArray, List.set_cons_zero, List.set_cons_succ])
            refine wpAnyN_done (by kernel_rfl) ?_ _
            go_wp2_with fail
            go_meet
            exact ⟨_, _, _, _, _, _, rfl, rfl, by rw [← hw0.out]; exact HT⟩
          · simp only [List.getElem_toArray, List.getElem_cons_zero, List.getElem_cons_succ]
            go_simp
            obtain ⟨y15, hx15⟩ : ∃ X, Hid (X = y12.alloc (.cells (bkC zBk none 0 0) 28)) := ⟨_, rfl⟩
            have hb : Below y12.heap.size y12 y15 := by rw [hx15.out]; exact bAlloc _ _
            have K15 := Lib.hid (bNext K12.out hb)
            have I15_1 := Lib.hid (own_next I12_1.out hb)
            have I15_5 := Lib.hid (I12_5.out.next hb)
            have I15_4 := Lib.hid (show Blk y15 y12.heap.size 28 (bkC zBk none 0 0) by rw [hx15.out]; exact Blk.new _ _ _)
            have D15 := Lib.hid (show y12.heap.size + 1 = y15.heap.size by rw [hx15.out]; simp)
            rw [← hx15.out]
            clear hx15
            refine hK _ _ (fun _ => by show Below z0 w0 _; rw [hz0.out]; exact K15.out) ?_
            (try simp only [Act.put, List.setIfInBounds_toArray, List.set_cons_zero, List.set_cons_succ])
            clear hK hb
            refine wpAnyN_one (i := 3) (by kernel_rfl) rfl (fun K hK => ?_)
            simp only [List.getElem_toArray, List.getElem_cons_zero, List.getElem_cons_succ]
            go_simp
            refine (clone_any b A c _ ((HA0.out.next K15.out)) HC.out HZ.out).mono ?_
            rintro e y16 ⟨A16, c16, rfl, ho, hb⟩
            have K16 := Lib.hid (bNext K15.out hb)
            have I16_1 := Lib.hid (own_next I15_1.out hb)
            have I16_5 := Lib.hid (I15_5.out.next hb)
            have I16_4 := Lib.hid (I15_4.out.next hb)
            have I16_3 := Lib.hid ho
            have D16 := Lib.hid (show y15.heap.size ≤ y16.heap.size ∧ (∀ g, (Value.slice A16 b.code.length c16).ownBlock = some g → y15.heap.size ≤ g ∧ g < y16.heap.size) from ⟨hb.size, fun g hg => own_lt ho hg⟩)
            refine hK _ _ (fun _ => by show Below z0 w0 _; rw [hz0.out]; exact K16.out) ?_
            (try simp only [Act.put, List.setIfInBounds_toArray, List.set_cons_zero, List.set_cons_succ])
            clear hK hb ho
            obtain ⟨p7, hp7⟩ : ∃ X, Hid (X = y12.heap.size) := ⟨_, rfl⟩
            obtain ⟨p8, hp8⟩ : ∃ X, Hid (X = y1.heap.size) := ⟨_, rfl⟩
            have d1 := D1.out.1
            have d12 := D12.out
            have d15 := D15.out
            have d16 := D16.out.1
            have hp7e := hp7.out
            have hp8e := hp8.out
            have NE := Lib.hid (show p7 ≠ p8 ∧ w0.heap.size ≤ p7 ∧ w0.heap.size ≤ p8 by omega)
            have NA := Lib.hid (show ∀ g, (Value.slice A1 b.code.length c1).ownBlock = some g → g ≠ p7 ∧ g ≠ p8 by intro g hg; have := D1.out.2 g hg; omega)
            have NB := Lib.hid (show ∀ g, (Value.slice A16 b.code.length c16).ownBlock = some g → g ≠ p7 ∧ g ≠ p8 by intro g hg; have := D16.out.2 g hg; omega)
            have NC := Lib.hid (show ∀ g h, (Value.slice A1 b.code.length c1).ownBlock = some g → (Value.slice A16 b.code.length c16).ownBlock = some h → g ≠ h by intro g h hg hh; have := D1.out.2 g hg; have := D16.out.2 h hh; omega)
            have BS := Lib.hid (show w0.heap.size ≤ w0.heap.size ∧ w0.heap.size ≤ y15.heap.size by omega)
            rw [← hp7.out] at I16_4
            rw [← hp8.out] at I16_5
            rw [← hp7.out, ← hp8.out]
            clear d1 d12 d15 d16 hp7e hp8e hp7 hp8
            have t0 := I16_4.out.cell 0
            have t1 := I16_4.out.cell 1
            have t2 := I16_4.out.cell 2
            have t3 := I16_4.out.cell 3
            have t4 := I16_4.out.cell 4
            have t5 := I16_4.out.cell 5
            have t6 := I16_4.out.cell 6
            have t7 := I16_4.out.cell 7
            have t8 := I16_4.out.cell 8
            have tl := I16_4.out.lt
            simp at t0 t1 t2 t3 t4 t5 t6 t7 t8
            have f0 := I16_4.out.frozen 0
            have f1 := I16_4.out.frozen 1
            have f2 := I16_4.out.frozen 2
            have f3 := I16_4.out.frozen 3
            have f4 := I16_4.out.frozen 4
            have f5 := I16_4.out.frozen 5
            have f6 := I16_4.out.frozen 6
            have f7 := I16_4.out.frozen 7
            have f8 := I16_4.out.frozen 8
            refine wpAnyN_one (i := 6) (by kernel_rfl) rfl (fun K hK => ?_)
            simp only [List.getElem_toArray, List.getElem_cons_zero, List.getElem_cons_succ]
            go_simp
            obtain ⟨wa, hwa⟩ : ∃ X, Hid (X = setB y16 p7 b A1 b.code.length c1) := ⟨_, rfl⟩
            have HPa := Lib.hid (show Blk wa p7 28 (bkC b A1 b.code.length c1) by rw [hwa.out]; exact setB_same I16_4.out rfl _ _ _ _)
            have HQa := Lib.hid (show Blk wa p8 28 (bkC zBk none 0 0) by rw [hwa.out]; exact setB_far I16_5.out (fun e => NE.out.1 e.symm) _ _ _ _)
            have HKa := Lib.hid (show Below w0.heap.size w0 wa by rw [hwa.out]; exact setB_below K16.out NE.out.2.1 _ _ _ _)
            have HOa := Lib.hid (show wa.ownsRow w0.heap.size 34 6 (.slice A1 b.code.length c1) b.code.length (aCs b.code) by rw [hwa.out]; exact setB_own (own_base I16_1.out BS.out.1) (fun g hg => (NA.out g hg).1) _ _ _ _)
            have HUa := Lib.hid (show wa.ownsRow w0.heap.size 34 6 (.slice A16 b.code.length c16) b.code.length (aCs b.code) by rw [hwa.out]; exact setB_own (own_base I16_3.out BS.out.2) (fun g hg => (NB.out g hg).1) _ _ _ _)
            refine hK _ _ (fun _ => by change Below z0 w0 (setB y16 p7 b A1 b.code.length c1); rw [← hwa.out, hz0.out]; exact HKa.out) ?_
            change wpAnyN _ _ _ _ _ _ _ _ _ (setB y16 p7 b A1 b.code.length c1)
            rw [← hwa.out]
            (try simp only [Act.put, List.setIfInBounds_toArray, List.set_cons_zero, List.set_cons_succ])
            clear hK t0 t1 t2 t3 t4 t5 t6 t7 t8 tl f0 f1 f2 f3 f4 f5 f6 f7 f8 hwa
            have t0 := HQa.out.cell 0
            have t1 := HQa.out.cell 1
            have t2 := HQa.out.cell 2
            have t3 := HQa.out.cell 3
            have t4 := HQa.out.cell 4
            have t5 := HQa.out.cell 5
            have t6 := HQa.out.cell 6
            have t7 := HQa.out.cell 7
            have t8 := HQa.out.cell 8
            have tl := HQa.out.lt
            simp at t0 t1 t2 t3 t4 t5 t6 t7 t8
            have f0 := HQa.out.frozen 0
            have f1 := HQa.out.frozen 1
            have f2 := HQa.out.frozen 2
            have f3 := HQa.out.frozen 3
            have f4 := HQa.out.frozen 4
            have f5 := HQa.out.frozen 5
            have f6 := HQa.out.frozen 6
            have f7 := HQa.out.frozen 7
            have f8 := HQa.out.frozen 8
            refine wpAnyN_one (i := 7) (by kernel_rfl) rfl (fun K hK => ?_)
            simp only [List.getElem_toArray, List.getElem_cons_zero, List.getElem_cons_succ]
            go_simp
            obtain ⟨wb, hwb⟩ : ∃ X, Hid (X = setB wa p8 b A16 b.code.length c16) := ⟨_, rfl⟩
            have HT := Lib.hid (show TwoC w0 wb b p7 p8 A1 A16 c1 c16 by rw [hwb.out]; exact ⟨setB_below HKa.out NE.out.2.2 _ _ _ _, setB_far HPa.out NE.out.1 _ _ _ _, setB_same HQa.out rfl _ _ _ _, setB_own HOa.out (fun g hg => (NA.out g hg).2) _ _ _ _, setB_own HUa.out (fun g hg => (NB.out g hg).2) _ _ _ _, NE.out, NA.out, NB.out, NC.out⟩)
            refine hK _ _ (fun _ => by change Below z0 w0 (setB wa p8 b A16 b.code.length c16); rw [← hwb.out, hz0.out]; exact HT.out.k) ?_
            change wpAnyN _ _ _ _ _ _ _ _ _ (setB wa p8 b A16 b.code.length c16)
            rw [← hwb.out]
            (try simp only [Act.put, List.setIfInBounds_toArray, List.set_cons_zero, List.set_cons_succ])
            refine wpAnyN_done (by kernel_rfl) ?_ _
            go_wp2_with fail
            go_meet
            exact ⟨_, _, _, _, _, _, rfl, rfl, by rw [← hw0.out]; exact HT⟩
      · simp only [List.getElem_toArray, List.getElem_cons_zero, List.getElem_cons_succ]
        go_simp
        obtain ⟨y17, hx17⟩ : ∃ X, Hid (X = w0.alloc (.cells (bkC zBk none 0 0) 28)) := ⟨_, rfl⟩
        have hb : Below w0.heap.size w0 y17 := by rw [hx17.out]; exact bAlloc _ _
        have K17 := Lib.hid (bNext K0.out hb)
        have I17_4 := Lib.hid (show Blk y17 w0.heap.size 28 (bkC zBk none 0 0) by rw [hx17.out]; exact Blk.new _ _ _)
        have D17 := Lib.hid (show w0.heap.size + 1 = y17.heap.size by rw [hx17.out]; simp)
        rw [← hx17.out]
        clear hx17
        refine hK _ _ (fun _ => by show Below z0 w0 _; rw [hz0.out]; exact K17.out) ?_
        (try simp only [Act.put, List.setIfInBounds_toArray, List.set_cons_zero, List.set_cons_succ])
        clear hK hb
        refine wpAnyN_two (i := 1) (j := 5) (by kernel_rfl) rfl rfl (fun K hK => ?_) (fun K hK => ?_)
        · simp only [List.getElem_toArray, List.getElem_cons_zero, List.getElem_cons_succ]
          go_simp
          refine (clone_any b A c _ ((HA0.out.next K17.out)) HC.out HZ.out).mono ?_
          rintro e y18 ⟨A18, c18, rfl, ho, hb⟩
          have K18 := Lib.hid (bNext K17.out hb)
          have I18_4 := Lib.hid (I17_4.out.next hb)
          have I18_1 := Lib.hid ho
          have D18 := Lib.hid (show y17.heap.size ≤ y18.heap.size ∧ (∀ g, (Value.slice A18 b.code.length c18).ownBlock = some g → y17.heap.size ≤ g ∧ g < y18.heap.size) from ⟨hb.size, fun g hg => own_lt ho hg⟩)
          refine hK _ _ (fun _ => by show Below z0 w0 _; rw [hz0.out]; exact K18.out) ?_
          (try simp only [Act.put, List.setIfInBounds_toArray, List.set_cons_zero, List.set_cons_succ])
          clear hK hb ho
          refine wpAnyN_two (i := 3) (j := 5) (by kernel_rfl) rfl rfl (fun K hK => ?_) (fun K hK => ?_)
          · simp only [List.getElem_toArray, List.getElem_cons_zero, List.getElem_cons_succ]
            go_simp
            refine (clone_any b A c _ ((HA0.out.next K18.out)) HC.out HZ.out).mono ?_
            rintro e y19 ⟨A19, c19, rfl, ho, hb⟩
            have K19 := Lib.hid (bNext K18.out hb)
            have I19_4 := Lib.hid (I18_4.out.next hb)
            have I19_1 := Lib.hid (own_next I18_1.out hb)
            have I19_3 := Lib.hid ho
            have D19 := Lib.hid (show y18.heap.size ≤ y19.heap.size ∧ (∀ g, (Value.slice A19 b.code.length c19).ownBlock = some g → y18.heap.size ≤ g ∧ g < y19.heap.size) from ⟨hb.size, fun g hg => own_lt ho hg⟩)
            refine hK _ _ (fun _ => by show Below z0 w0 _; rw [hz0.out]; exact K19.out) ?_
            (try simp only [Act.put, List.setIfInBounds_toArray, List.set_cons_zero, List.set_cons_succ])
            clear hK hb ho
            refine wpAnyN_one (i := 5) (by kernel_rfl) rfl (fun K hK => ?_)
            simp only [List.getElem_toArray, List.getElem_cons_zero, List.getElem_cons_succ]
            go_simp
            obtain ⟨y20, hx20⟩ : ∃ X, Hid (X = y19.alloc (.cells (bkC zBk none 0 0) 28)) := ⟨_, rfl⟩
            have hb : Below y19.heap.size y19 y20 := by rw [hx20.out]; exact bAlloc _ _
            have K20 := Lib.hid (bNext K19.out hb)
            have I20_4 := Lib.hid (I19_4.out.next hb)
            have I20_1 := Lib.hid (own_next I19_1.out hb)
            have I20_3 := Lib.hid (own_next I19_3.out hb)
            have I20_5 := Lib.hid (show Blk y20 y19.heap.size 28 (bkC zBk none 0 0) by rw [hx20.out]; exact Blk.new _ _ _)
            have D20 := Lib.hid (show y19.heap.size + 1 = y20.heap.size by rw [hx20.out]; simp)
            rw [← hx20.out]
            clear hx20
            refine hK _ _ (fun _ => by show Below z0 w0 _; rw [hz0.out]; exact K20.out) ?_
            (try simp only [Act.put, List.setIfInBounds_toArray, List.set_cons_zero, List.set_cons_succ])
            clear hK hb
            obtain ⟨p7, hp7⟩ : ∃ X, Hid (X = w0.heap.size) := ⟨_, rfl⟩
            obtain ⟨p8, hp8⟩ : ∃ X, Hid (X = y19.heap.size) := ⟨_, rfl⟩
            have d17 := D17.out
            have d18 := D18.out.1
            have d19 := D19.out.1
            have d20 := D20.out
            have hp7e := hp7.out
            have hp8e := hp8.out
            have NE := Lib.hid (show p7 ≠ p8 ∧ w0.heap.size ≤ p7 ∧ w0.heap.size ≤ p8 by omega)
            have NA := Lib.hid (show ∀ g, (Value.slice A18 b.code.length c18).ownBlock = some g → g ≠ p7 ∧ g ≠ p8 by intro g hg; have := D18.out.2 g hg; omega)
            have NB := Lib.hid (show ∀ g, (Value.slice A19 b.code.length c19).ownBlock = some g → g ≠ p7 ∧ g ≠ p8 by intro g hg; have := D19.out.2 g hg; omega)
            have NC := Lib.hid (show ∀ g h, (Value.slice A18 b.code.length c18).ownBlock = some g → (Value.slice A19 b.code.length c19).ownBlock = some h → g ≠ h by intro g h hg hh; have := D18.out.2 g hg; have := D19.out.2 h hh; omega)
            have BS := Lib.hid (show w0.heap.size ≤ y17.heap.size ∧ w0.heap.size ≤ y18.heap.size by omega)
            rw [← hp7.out] at I20_4
            rw [← hp8.out] at I20_5
            rw [← hp7.out, ← hp8.out]
            clear d17 d18 d19 d20 hp7e hp8e hp7 hp8
            have t0 := I20_4.out.cell 0
            have t1 := I20_4.out.cell 1
            have t2 := I20_4.out.cell 2
            have t3 := I20_4.out.cell 3
            have t4 := I20_4.out.cell 4
            have t5 := I20_4.out.cell 5
            have t6 := I20_4.out.cell 6
            have t7 := I20_4.out.cell 7
            have t8 := I20_4.out.cell 8
            have tl := I20_4.out.lt
            simp at t0 t1 t2 t3 t4 t5 t6 t7 t8
            have f0 := I20_4.out.frozen 0
            have f1 := I20_4.out.frozen 1
            have f2 := I20_4.out.frozen 2
            have f3 := I20_4.out.frozen 3
            have f4 := I20_4.out.frozen 4
            have f5 := I20_4.out.frozen 5
            have f6 := I20_4.out.frozen 6
            have f7 := I20_4.out.frozen 7
            have f8 := I20_4.out.frozen 8
            refine wpAnyN_one (i := 6) (by kernel_rfl) rfl (fun K hK => ?_)
            simp only [List.getElem_toArray, List.getElem_cons_zero, List.getElem_cons_succ]
            go_simp
            obtain ⟨wa, hwa⟩ : ∃ X, Hid (X = setB y20 p7 b A18 b.code.length c18) := ⟨_, rfl⟩
            have HPa := Lib.hid (show Blk wa p7 28 (bkC b A18 b.code.length c18) by rw [hwa.out]; exact setB_same I20_4.out rfl _ _ _ _)
            have HQa := Lib.hid (show Blk wa p8 28 (bkC zBk none 0 0) by rw [hwa.out]; exact setB_far I20_5.out (fun e => NE.out.1 e.symm) _ _ _ _)
            have HKa := Lib.hid (show Below w0.heap.size w0 wa by rw [hwa.out]; exact setB_below K20.out NE.out.2.1 _ _ _ _)
            have HOa := Lib.hid (show wa.ownsRow w0.heap.size 34 6 (.slice A18 b.code.length c18) b.code.length (aCs b.code) by rw [hwa.out]; exact setB_own (own_base I20_1.out BS.out.1) (fun g hg => (NA.out g hg).1) _ _ _ _)
            have HUa := Lib.hid (show wa.ownsRow w0.heap.size 34 6 (.slice A19 b.code.length c19) b.code.length (aCs b.code) by rw [hwa.out]; exact setB_own (own_base I20_3.out BS.out.2) (fun g hg => (NB.out g hg).1) _ _ _ _)
            refine hK _ _ (fun _ => by change Below z0 w0 (setB y20 p7 b A18 b.code.length c18); rw [← hwa.out, hz0.out]; exact HKa.out) ?_
            change wpAnyN _ _ _ _ _ _ _ _ _ (setB y20 p7 b A18 b.code.length c18)
            rw [← hwa.out]
            (try simp only [Act.put, List.setIfInBounds_toArray, List.set_cons_zero, List.set_cons_succ])
            clear hK t0 t1 t2 t3 t4 t5 t6 t7 t8 tl f0 f1 f2 f3 f4 f5 f6 f7 f8 hwa
            have t0 := HQa.out.cell 0
            have t1 := HQa.out.cell 1
            have t2 := HQa.out.cell 2
            have t3 := HQa.out.cell 3
            have t4 := HQa.out.cell 4
            have t5 := HQa.out.cell 5
            have t6 := HQa.out.cell 6
            have t7 := HQa.out.cell 7
            have t8 := HQa.out.cell 8
            have tl := HQa.out.lt
            simp at t0 t1 t2 t3 t4 t5 t6 t7 t8
            have f0 := HQa.out.frozen 0
            have f1 := HQa.out.frozen 1
            have f2 := HQa.out.frozen 2
            have f3 := HQa.out.frozen 3
            have f4 := HQa.out.frozen 4
            have f5 := HQa.out.frozen 5
            have f6 := HQa.out.frozen 6
            have f7 := HQa.out.frozen 7
            have f8 := HQa.out.frozen 8
            refine wpAnyN_one (i := 7) (by kernel_rfl) rfl (fun K hK => ?_)
            simp only [List.getElem_toArray, List.getElem_cons_zero, List.getElem_cons_succ]
            go_simp
            obtain ⟨wb, hwb⟩ : ∃ X, Hid (X = setB wa p8 b A19 b.code.length c19) := ⟨_, rfl⟩
            have HT := Lib.hid (show TwoC w0 wb b p7 p8 A18 A19 c18 c19 by rw [hwb.out]; exact ⟨setB_below HKa.out NE.out.2.2 _ _ _ _, setB_far HPa.out NE.out.1 _ _ _ _, setB_same HQa.out rfl _ _ _ _, setB_own HOa.out (fun g hg => (NA.out g hg).2) _ _ _ _, setB_own HUa.out (fun g hg => (NB.out g hg).2) _ _ _ _, NE.out, NA.out, NB.out, NC.out⟩)
            refine hK _ _ (fun _ => by change Below z0 w0 (setB wa p8 b A19 b.code.length c19); rw [← hwb.out, hz0.out]; exact HT.out.k) ?_
            change wpAnyN _ _ _ _ _ _ _ _ _ (setB wa p8 b A19 b.code.length c19)
            rw [← hwb.out]
            (try simp only [Act.put, List.setIfInBounds_toArray, List.set_cons_zero, List.set_cons_succ])
            refine wpAnyN_done (by kernel_rfl) ?_ _
            go_wp2_with fail
            go_meet
            exact ⟨_, _, _, _, _, _, rfl, rfl, by rw [← hw0.out]; exact HT⟩
          · simp only [List.getElem_toArray, List.getElem_cons_zero, List.getElem_cons_succ]
            go_simp
            obtain ⟨y21, hx21⟩ : ∃ X, Hid (X = y18.alloc (.cells (bkC zBk none 0 0) 28)) := ⟨_, rfl⟩
            have hb : Below y18.heap.size y18 y21 := by rw [hx21.out]; exact bAlloc _ _
            have K21 := Lib.hid (bNext K18.out hb)
            have I21_4 := Lib.hid (I18_4.out.next hb)
            have I21_1 := Lib.hid (own_next I18_1.out hb)
            have I21_5 := Lib.hid (show Blk y21 y18.heap.size 28 (bkC zBk none 0 0) by rw [hx21.out]; exact Blk.new _ _ _)
            have D21 := Lib.hid (show y18.heap.size + 1 = y21.heap.size by rw [hx21.out]; simp)
            rw [← hx21.out]
            clear hx21
            refine hK _ _ (fun _ => by show Below z0 w0 _; rw [hz0.out]; exact K21.out) ?_
            (try simp only [Act.put, List.setIfInBounds_toArray, List.set_cons_zero, List.set_cons_succ])
            clear hK hb
            refine wpAnyN_one (i := 3) (by kernel_rfl) rfl (fun K hK => ?_)
            simp only [List.getElem_toArray, List.getElem_cons_zero, List.getElem_cons_succ]
            go_simp
            refine (clone_any b A c _ ((HA0.out.next K21.out)) HC.out HZ.out).mono ?_
            rintro e y22 ⟨A22, c22, rfl, ho, hb⟩
            have K22 := Lib.hid (bNext K21.out hb)
            have I22_4 := Lib.hid (I21_4.out.next hb)
            have I22_1 := Lib.hid (own_next I21_1.out hb)
            have I22_5 := Lib.hid (I21_5.out.next hb)
            have I22_3 := Lib.hid ho
            have D22 := Lib.hid (show y21.heap.size ≤ y22.heap.size ∧ (∀ g, (Value.slice A22 b.code.length c22).ownBlock = some g → y21.heap.size ≤ g ∧ g < y22.heap.size) from ⟨hb.size, fun g hg => own_lt ho hg⟩)
            refine hK _ _ (fun _ => by show Below z0 w0 _; rw [hz0.out]; exact K22.out) ?_
            (try simp only [Act.put, List.setIfInBounds_toArray, List.set_cons_zero, List.set_cons_succ])
            clear hK hb ho
            obtain ⟨p7, hp7⟩ : ∃ X, Hid (X = w0.heap.size) := ⟨_, rfl⟩
            obtain ⟨p8, hp8⟩ : ∃ X, Hid (X = y18.heap.size) := ⟨_, rfl⟩
            have d17 := D17.out
            have d18 := D18.out.1
            have d21 := D21.out
            have d22 := D22.out.1
            have hp7e := hp7.out
            have hp8e := hp8.out
            have NE := Lib.hid (show p7 ≠ p8 ∧ w0.heap.size ≤ p7 ∧ w0.heap.size ≤ p8 by omega)
            have NA := Lib.hid (show ∀ g, (Value.slice A18 b.code.length c18).ownBlock = some g → g ≠ p7 ∧ g ≠ p8 by intro g hg; have := D18.out.2 g hg; omega)
            have NB := Lib.hid (show ∀ g, (Value.slice A22 b.code.length c22).ownBlock = some g → g ≠ p7 ∧ g ≠ p8 by intro g hg; have := D22.out.2 g hg; omega)
            have NC := Lib.hid (show ∀ g h, (Value.slice A18 b.code.length c18).ownBlock = some g → (Value.slice A22 b.code.length c22).ownBlock = some h → g ≠ h by intro g h hg hh; have := D18.out.2 g hg; have := D22.out.2 h hh; omega)
            have BS := Lib.hid (show w0.heap.size ≤ y17.heap.size ∧ w0.heap.size ≤ y21.heap.size by omega)
            rw [← hp7.out] at I22_4
            rw [← hp8.out] at I22_5
            rw [← hp7.out, ← hp8.out]
            clear d17 d18 d21 d22 hp7e hp8e hp7 hp8
            have t0 := I22_4.out.cell 0
            have t1 := I22_4.out.cell 1
            have t2 := I22_4.out.cell 2
            have t3 := I22_4.out.cell 3
            have t4 := I22_4.out.cell 4
            have t5 := I22_4.out.cell 5
            have t6 := I22_4.out.cell 6
            have t7 := I22_4.out.cell 7
            have t8 := I22_4.out.cell 8
            have tl := I22_4.out.lt
            simp at t0 t1 t2 t3 t4 t5 t6 t7 t8
            have f0 := I22_4.out.frozen 0
            have f1 := I22_4.out.frozen 1
            have f2 := I22_4.out.frozen 2
            have f3 := I22_4.out.frozen 3
            have f4 := I22_4.out.frozen 4
            have f5 := I22_4.out.frozen 5
            have f6 := I22_4.out.frozen 6
            have f7 := I22_4.out.frozen 7
            have f8 := I22_4.out.frozen 8
            refine wpAnyN_one (i := 6) (by kernel_rfl) rfl (fun K hK => ?_)
            simp only [List.getElem_toArray, List.getElem_cons_zero, List.getElem_cons_succ]
            go_simp
            obtain ⟨wa, hwa⟩ : ∃ X, Hid (X = setB y22 p7 b A18 b.code.length c18) := ⟨_, rfl⟩
            have HPa := Lib.hid (show Blk wa p7 28 (bkC b A18 b.code.length c18) by rw [hwa.out]; exact setB_same I22_4.out rfl _ _ _ _)
            have HQa := Lib.hid (show Blk wa p8 28 (bkC zBk none 0 0) by rw [hwa.out]; exact setB_far I22_5.out (fun e => NE.out.1 e.symm) _ _ _ _)
            have HKa := Lib.hid (show Below w0.heap.size w0 wa by rw [hwa.out]; exact setB_below K22.out NE.out.2.1 _ _ _ _)
            have HOa := Lib.hid (show wa.ownsRow w0.heap.size 34 6 (.slice A18 b.code.length c18) b.code.length (aCs b.code) by rw [hwa.out]; exact setB_own (own_base I22_1.out BS.out.1) (fun g hg => (NA.out g hg).1) _ _ _ _)
            have HUa := Lib.hid (show wa.ownsRow w0.heap.size 34 6 (.slice A22 b.code.length c22) b.code.length (aCs b.code) by rw [hwa.out]; exact setB_own (own_base I22_3.out BS.out.2) (fun g hg => (NB.out g hg).1) _ _ _ _)
            refine hK _ _ (fun _ => by change Below z0 w0 (setB y22 p7 b A18 b.code.length c18); rw [← hwa.out, hz0.out]; exact HKa.out) ?_
            change wpAnyN _ _ _ _ _ _ _ _ _ (setB y22 p7 b A18 b.code.length c18)
            rw [← hwa.out]
            (try simp only [Act.put, List.setIfInBounds_toArray, List.set_cons_zero, List.set_cons_succ])
            clear hK t0 t1 t2 t3 t4 t5 t6 t7 t8 tl f0 f1 f2 f3 f4 f5 f6 f7 f8 hwa
            have t0 := HQa.out.cell 0
            have t1 := HQa.out.cell 1
            have t2 := HQa.out.cell 2
            have t3 := HQa.out.cell 3
            have t4 := HQa.out.cell 4
            have t5 := HQa.out.cell 5
            have t6 := HQa.out.cell 6
            have t7 := HQa.out.cell 7
            have t8 := HQa.out.cell 8
            have tl := HQa.out.lt
            simp at t0 t1 t2 t3 t4 t5 t6 t7 t8
            have f0 := HQa.out.frozen 0
            have f1 := HQa.out.frozen 1
            have f2 := HQa.out.frozen 2
            have f3 := HQa.out.frozen 3
            have f4 := HQa.out.frozen 4
            have f5 := HQa.out.frozen 5
            have f6 := HQa.out.frozen 6
            have f7 := HQa.out.frozen 7
            have f8 := HQa.out.frozen 8
            refine wpAnyN_one (i := 7) (by kernel_rfl) rfl (fun K hK => ?_)
            simp only [List.getElem_toArray, List.getElem_cons_zero, List.getElem_cons_succ]
            go_simp
            obtain ⟨wb, hwb⟩ : ∃ X, Hid (X = setB wa p8 b A22 b.code.length c22) := ⟨_, rfl⟩
            have HT := Lib.hid (show TwoC w0 wb b p7 p8 A18 A22 c18 c22 by rw [hwb.out]; exact ⟨setB_below HKa.out NE.out.2.2 _ _ _ _, setB_far HPa.out NE.out.1 _ _ _ _, setB_same HQa.out rfl _ _ _ _, setB_own HOa.out (fun g hg => (NA.out g hg).2) _ _ _ _, setB_own HUa.out (fun g hg => (NB.out g hg).2) _ _ _ _, NE.out, NA.out, NB.out, NC.out⟩)
            refine hK _ _ (fun _ => by change Below z0 w0 (setB wa p8 b A22 b.code.length c22); rw [← hwb.out, hz0.out]; exact HT.out.k) ?_
            change wpAnyN _ _ _ _ _ _ _ _ _ (setB wa p8 b A22 b.code.length c22)
            rw [← hwb.out]
            (try simp only [Act.put, List.setIfInBounds_toArray, List.set_cons_zero, List.set_cons_succ])
            refine wpAnyN_done (by kernel_rfl) ?_ _
            go_wp2_with fail
            go_meet
            exact ⟨_, _, _, _, _, _, rfl, rfl, by rw [← hw0.out]; exact HT⟩
        · simp only [List.getElem_toArray, List.getElem_cons_zero, List.getElem_cons_succ]
          go_simp
          obtain ⟨y23, hx23⟩ : ∃ X, Hid (X = y17.alloc (.cells (bkC zBk none 0 0) 28)) := ⟨_, rfl⟩
          have hb : Below y17.heap.size y17 y23 := by rw [hx23.out]; exact bAlloc _ _
          have K23 := Lib.hid (bNext K17.out hb)
          have I23_4 := Lib.hid (I17_4.out.next hb)
          have I23_5 := Lib.hid (show Blk y23 y17.heap.size 28 (bkC zBk none 0 0) by rw [hx23.out]; exact Blk.new _ _ _)
          have D23 := Lib.hid (show y17.heap.size + 1 = y23.heap.size by rw [hx23.out]; simp)
          rw [← hx23.out]
          clear hx23
          refine hK _ _ (fun _ => by show Below z0 w0 _; rw [hz0.out]; exact K23.out) ?_
          (try simp only [Act.put, List.setIfInBounds_toArray, List.set_cons_zero, List.set_cons_succ])
          clear hK hb
          refine wpAnyN_one (i := 1) (by kernel_rfl) rfl (fun K hK => ?_)
          simp only [List.getElem_toArray, List.getElem_cons_zero, List.getElem_cons_succ]
          go_simp
          refine (clone_any b A c _ ((HA0.out.next K23.out)) HC.out HZ.out).mono ?_
          rintro e y24 ⟨A24, c24, rfl, ho, hb⟩
          have K24 := Lib.hid (bNext K23.out hb)
          have I24_4 := Lib.hid (I23_4.out.next hb)
          have I24_5 := Lib.hid (I23_5.out.next hb)
          have I24_1 := Lib.hid ho
          have D24 := Lib.hid (show y23.heap.size ≤ y24.heap.size ∧ (∀ g, (Value.slice A24 b.code.length c24).ownBlock = some g → y23.heap.size ≤ g ∧ g < y24.heap.size) from ⟨hb.size, fun g hg => own_lt ho hg⟩)
          refine hK _ _ (fun _ => by show Below z0 w0 _; rw [hz0.out]; exact K24.out) ?_
          (try simp only [Act.put, List.setIfInBounds_toArray, List.set_cons_zero, List.set_cons_succ])
          clear hK hb ho
          refine wpAnyN_one (i := 3) (by kernel_rfl) rfl (fun K hK => ?_)
          simp only [List.getElem_toArray, List.getElem_cons_zero, List.getElem_cons_succ]
          go_simp
          refine (clone_any b A c _ ((HA0.out.next K24.out)) HC.out HZ.out).mono ?_
          rintro e y25 ⟨A25, c25, rfl, ho, hb⟩
          have K25 := Lib.hid (bNext K24.out hb)
          have I25_4 := Lib.hid (I24_4.out.next hb)
          have I25_5 := Lib.hid (I24_5.out.next hb)
          have I25_1 := Lib.hid (own_next I24_1.out hb)
          have I25_3 := Lib.hid ho
          have D25 := Lib.hid (show y24.heap.size ≤ y25.heap.size ∧ (∀ g, (Value.slice A25 b.code.length c25).ownBlock = some g → y24.heap.size ≤ g ∧ g < y25.heap.size) from ⟨hb.size, fun g hg => own_lt ho hg⟩)
          refine hK _ _ (fun _ => by show Below z0 w0 _; rw [hz0.out]; exact K25.out) ?_
          (try simp only [Act.put, List.setIfInBounds_toArray, List.set_cons_zero, List.set_cons_succ])
          clear hK hb ho
          obtain ⟨p7, hp7⟩ : ∃ X, Hid (X = w0.heap.size) := ⟨_, rfl⟩
          obtain ⟨p8, hp8⟩ : ∃ X, Hid (X = y17.heap.size) := ⟨_, rfl⟩
          have d17 := D17.out
          have d23 := D23.out
          have d24 := D24.out.1
          have d25 := D25.out.1
          have hp7e := hp7.out
          have hp8e := hp8.out
          have NE := Lib.hid (show p7 ≠ p8 ∧ w0.heap.size ≤ p7 ∧ w0.heap.size ≤ p8 by omega)
          have NA := Lib.hid (show ∀ g, (Value.slice A24 b.code.length c24).ownBlock = some g → g ≠ p7 ∧ g ≠ p8 by intro g hg; have := D24.out.2 g hg; omega)
          have NB := Lib.hid (show ∀ g, (Value.slice A25 b.code.length c25).ownBlock = some g → g ≠ p7 ∧ g ≠ p8 by intro g hg; have := D25.out.2 g hg; omega)
          have NC := Lib.hid (show ∀ g h, (Value.slice A24 b.code.length c24).ownBlock = some g → (Value.slice A25 b.code.length c25).ownBlock = some h → g ≠ h by intro g h hg hh; have := D24.out.2 g hg; have := D25.out.2 h hh; omega)
          have BS := Lib.hid (show w0.heap.size ≤ y23.heap.size ∧ w0.heap.size ≤ y24.heap.size by omega)
          rw [← hp7.out] at I25_4
          rw [← hp8.out] at I25_5
          rw [← hp7.out, ← hp8.out]
          clear d17 d23 d24 d25 hp7e hp8e hp7 hp8
          have t0 := I25_4.out.cell 0
          have t1 := I25_4.out.cell 1
          have t2 := I25_4.out.cell 2
          have t3 := I25_4.out.cell 3
          have t4 := I25_4.out.cell 4
          have t5 := I25_4.out.cell 5
          have t6 := I25_4.out.cell 6
          have t7 := I25_4.out.cell 7
          have t8 := I25_4.out.cell 8
          have tl := I25_4.out.lt
          simp at t0 t1 t2 t3 t4 t5 t6 t7 t8
          have f0 := I25_4.out.frozen 0
          have f1 := I25_4.out.frozen 1
          have f2 := I25_4.out.frozen 2
          have f3 := I25_4.out.frozen 3
          have f4 := I25_4.out.frozen 4
          have f5 := I25_4.out.frozen 5
          have f6 := I25_4.out.frozen 6
          have f7 := I25_4.out.frozen 7
          have f8 := I25_4.out.frozen 8
          refine wpAnyN_one (i := 6) (by kernel_rfl) rfl (fun K hK => ?_)
          simp only [List.getElem_toArray, List.getElem_cons_zero, List.getElem_cons_succ]
          go_simp
          obtain ⟨wa, hwa⟩ : ∃ X, Hid (X = setB y25 p7 b A24 b.code.length c24) := ⟨_, rfl⟩
          have HPa := Lib.hid (show Blk wa p7 28 (bkC b A24 b.code.length c24) by rw [hwa.out]; exact setB_same I25_4.out rfl _ _ _ _)
          have HQa := Lib.hid (show Blk wa p8 28 (bkC zBk none 0 0) by rw [hwa.out]; exact setB_far I25_5.out (fun e => NE.out.1 e.symm) _ _ _ _)
          have HKa := Lib.hid (show Below w0.heap.size w0 wa by rw [hwa.out]; exact setB_below K25.out NE.out.2.1 _ _ _ _)
          have HOa := Lib.hid (show wa.ownsRow w0.heap.size 34 6 (.slice A24 b.code.length c24) b.code.length (aCs b.code) by rw [hwa.out]; exact setB_own (own_base I25_1.out BS.out.1) (fun g hg => (NA.out g hg).1) _ _ _ _)
          have HUa := Lib.hid (show wa.ownsRow w0.heap.size 34 6 (.slice A25 b.code.length c25) b.code.length (aCs b.code) by rw [hwa.out]; exact setB_own (own_base I25_3.out BS.out.2) (fun g hg => (NB.out g hg).1) _ _ _ _)
          refine hK _ _ (fun _ => by change Below z0 w0 (setB y25 p7 b A24 b.code.length c24); rw [← hwa.out, hz0.out]; exact HKa.out) ?_
          change wpAnyN _ _ _ _ _ _ _ _ _ (setB y25 p7 b A24 b.code.length c24)
          rw [← hwa.out]
          (try simp only [Act.put, List.setIfInBounds_toArray, List.set_cons_zero, List.set_cons_succ])
          clear hK t0 t1 t2 t3 t4 t5 t6 t7 t8 tl f0 f1 f2 f3 f4 f5 f6 f7 f8 hwa
          have t0 := HQa.out.cell 0
          have t1 := HQa.out.cell 1
          have t2 := HQa.out.cell 2
          have t3 := HQa.out.cell 3
          have t4 := HQa.out.cell 4
          have t5 := HQa.out.cell 5
          have t6 := HQa.out.cell 6
          have t7 := HQa.out.cell 7
          have t8 := HQa.out.cell 8
          have tl := HQa.out.lt
          simp at t0 t1 t2 t3 t4 t5 t6 t7 t8
          have f0 := HQa.out.frozen 0
          have f1 := HQa.out.frozen 1
          have f2 := HQa.out.frozen 2
          have f3 := HQa.out.frozen 3
          have f4 := HQa.out.frozen 4
          have f5 := HQa.out.frozen 5
          have f6 := HQa.out.frozen 6
          have f7 := HQa.out.frozen 7
          have f8 := HQa.out.frozen 8
          refine wpAnyN_one (i := 7) (by kernel_rfl) rfl (fun K hK => ?_)
          simp only [List.getElem_toArray, List.getElem_cons_zero, List.getElem_cons_succ]
          go_simp
          obtain ⟨wb, hwb⟩ : ∃ X, Hid (X = setB wa p8 b A25 b.code.length c25) := ⟨_, rfl⟩
          have HT := Lib.hid (show TwoC w0 wb b p7 p8 A24 A25 c24 c25 by rw [hwb.out]; exact ⟨setB_below HKa.out NE.out.2.2 _ _ _ _, setB_far HPa.out NE.out.1 _ _ _ _, setB_same HQa.out rfl _ _ _ _, setB_own HOa.out (fun g hg => (NA.out g hg).2) _ _ _ _, setB_own HUa.out (fun g hg => (NB.out g hg).2) _ _ _ _, NE.out, NA.out, NB.out, NC.out⟩)
          refine hK _ _ (fun _ => by change Below z0 w0 (setB wa p8 b A25 b.code.length c25); rw [← hwb.out, hz0.out]; exact HT.out.k) ?_
          change wpAnyN _ _ _ _ _ _ _ _ _ (setB wa p8 b A25 b.code.length c25)
          rw [← hwb.out]
          (try simp only [Act.put, List.setIfInBounds_toArray, List.set_cons_zero, List.set_cons_succ])
          refine wpAnyN_done (by kernel_rfl) ?_ _
          go_wp2_with fail
          go_meet
          exact ⟨_, _, _, _, _, _, rfl, rfl, by rw [← hw0.out]; exact HT⟩
      · simp only [List.getElem_toArray, List.getElem_cons_zero, List.getElem_cons_succ]
        go_simp
        obtain ⟨y26, hx26⟩ : ∃ X, Hid (X = w0.alloc (.cells (bkC zBk none 0 0) 28)) := ⟨_, rfl⟩
        have hb : Below w0.heap.size w0 y26 := by rw [hx26.out]; exact bAlloc _ _
        have K26 := Lib.hid (bNext K0.out hb)
        have I26_5 := Lib.hid (show Blk y26 w0.heap.size 28 (bkC zBk none 0 0) by rw [hx26.out]; exact Blk.new _ _ _)
        have D26 := Lib.hid (show w0.heap.size + 1 = y26.heap.size by rw [hx26.out]; simp)
        rw [← hx26.out]
        clear hx26
        refine hK _ _ (fun _ => by show Below z0 w0 _; rw [hz0.out]; exact K26.out) ?_
        (try simp only [Act.put, List.setIfInBounds_toArray, List.set_cons_zero, List.set_cons_succ])
        clear hK hb
        refine wpAnyN_two (i := 1) (j := 4) (by kernel_rfl) rfl rfl (fun K hK => ?_) (fun K hK => ?_)
        · simp only [List.getElem_toArray, List.getElem_cons_zero, List.getElem_cons_succ]
          go_simp
          refine (clone_any b A c _ ((HA0.out.next K26.out)) HC.out HZ.out).mono ?_
          rintro e y27 ⟨A27, c27, rfl, ho, hb⟩
          have K27 := Lib.hid (bNext K26.out hb)
          have I27_5 := Lib.hid (I26_5.out.next hb)
          have I27_1 := Lib.hid ho
          have D27 := Lib.hid (show y26.heap.size ≤ y27.heap.size ∧ (∀ g, (Value.slice A27 b.code.length c27).ownBlock = some g → y26.heap.size ≤ g ∧ g < y27.heap.size) from ⟨hb.size, fun g hg => own_lt ho hg⟩)
          refine hK _ _ (fun _ => by show Below z0 w0 _; rw [hz0.out]; exact K27.out) ?_
          (try simp only [Act.put, List.setIfInBounds_toArray, List.set_cons_zero, List.set_cons_succ])
          clear hK hb ho
          refine wpAnyN_two (i := 3) (j := 4) (by kernel_rfl) rfl rfl (fun K hK => ?_) (fun K hK => ?_)
          · simp only [List.getElem_toArray, List.getElem_cons_zero, List.getElem_cons_succ]
            go_simp
            refine (clone_any b A c _ ((HA0.out.next K27.out)) HC.out HZ.out).mono ?_
            rintro e y28 ⟨A28, c28, rfl, ho, hb⟩
            have K28 := Lib.hid (bNext K27.out hb)
            have I28_5 := Lib.hid (I27_5.out.next hb)
            have I28_1 := Lib.hid (own_next I27_1.out hb)
            have I28_3 := Lib.hid ho
            have D28 := Lib.hid (show y27.heap.size ≤ y28.heap.size ∧ (∀ g, (Value.slice A28 b.code.length c28).ownBlock = some g → y27.heap.size ≤ g ∧ g < y28.heap.size) from ⟨hb.size, fun g hg => own_lt ho hg⟩)
            refine hK _ _ (fun _ => by show Below z0 w0 _; rw [hz0.out]; exact K28.out) ?_
            (try simp only [Act.put, List.setIfInBounds_toArray, List.set_cons_zero, List.set_cons_succ])
            clear hK hb ho
            refine wpAnyN_one (i := 4) (by kernel_rfl) rfl (fun K hK => ?_)
            simp only [List.getElem_toArray, List.getElem_cons_zero, List.getElem_cons_succ]
            go_simp
            obtain ⟨y29, hx29⟩ : ∃ X, Hid (X = y28.alloc (.cells (bkC zBk none 0 0) 28)) := ⟨_, rfl⟩
            have hb : Below y28.heap.size y28 y29 := by rw [hx29.out]; exact bAlloc _ _
            have K29 := Lib.hid (bNext K28.out hb)
            have I29_5 := Lib.hid (I28_5.out.next hb)
            have I29_1 := Lib.hid (own_next I28_1.out hb)
            have I29_3 := Lib.hid (own_next I28_3.out hb)
            have I29_4 := Lib.hid (show Blk y29 y28.heap.size 28 (bkC zBk none 0 0) by rw [hx29.out]; exact Blk.new _ _ _)
            have D29 := Lib.hid (show y28.heap.size + 1 = y29.heap.size by rw [hx29.out]; simp)
            rw [← hx29.out]
            clear hx29
            refine hK _ _ (fun _ => by show Below z0 w0 _; rw [hz0.out]; exact K29.out) ?_
            (try simp only [Act.put, List.setIfInBounds_toArray, List.set_cons_zero, List.set_cons_succ])
            clear hK hb
            obtain ⟨p7, hp7⟩ : ∃ X, Hid (X = y28.heap.size) := ⟨_, rfl⟩
            obtain ⟨p8, hp8⟩ : ∃ X, Hid (X = w0.heap.size) := ⟨_, rfl⟩
            have d26 := D26.out
            have d27 := D27.out.1
            have d28 := D28.out.1
            have d29 := D29.out
            have hp7e := hp7.out
            have hp8e := hp8.out
            have NE := Lib.hid (show p7 ≠ p8 ∧ w0.heap.size ≤ p7 ∧ w0.heap.size ≤ p8 by omega)
            have NA := Lib.hid (show ∀ g, (Value.slice A27 b.code.length c27).ownBlock = some g → g ≠ p7 ∧ g ≠ p8 by intro g hg; have := D27.out.2 g hg; omega)
            have NB := Lib.hid (show ∀ g, (Value.slice A28 b.code.length c28).ownBlock = some g → g ≠ p7 ∧ g ≠ p8 by intro g hg; have := D28.out.2 g hg; omega)
            have NC := Lib.hid (show ∀ g h, (Value.slice A27 b.code.length c27).ownBlock = some g → (Value.slice A28 b.code.length c28).ownBlock = some h → g ≠ h by intro g h hg hh; have := D27.out.2 g hg; have := D28.out.2 h hh; omega)
            have BS := Lib.hid (show w0.heap.size ≤ y26.heap.size ∧ w0.heap.size ≤ y27.heap.size by omega)
            rw [← hp7.out] at I29_4
            rw [← hp8.out] at I29_5
            rw [← hp7.out, ← hp8.out]
            clear d26 d27 d28 d29 hp7e hp8e hp7 hp8
            have t0 := I29_4.out.cell 0
            have t1 := I29_4.out.cell 1
            have t2 := I29_4.out.cell 2
            have t3 := I29_4.out.cell 3
            have t4 := I29_4.out.cell 4
            have t5 := I29_4.out.cell 5
            have t6 := I29_4.out.cell 6
            have t7 := I29_4.out.cell 7
            have t8 := I29_4.out.cell 8
            have tl := I29_4.out.lt
            simp at t0 t1 t2 t3 t4 t5 t6 t7 t8
            have f0 := I29_4.out.frozen 0
            have f1 := I29_4.out.frozen 1
            have f2 := I29_4.out.frozen 2
            have f3 := I29_4.out.frozen 3
            have f4 := I29_4.out.frozen 4
            have f5 := I29_4.out.frozen 5
            have f6 := I29_4.out.frozen 6
            have f7 := I29_4.out.frozen 7
            have f8 := I29_4.out.frozen 8
            refine wpAnyN_one (i := 6) (by kernel_rfl) rfl (fun K hK => ?_)
            simp only [List.getElem_toArray, List.getElem_cons_zero, List.getElem_cons_succ]
            go_simp
            obtain ⟨wa, hwa⟩ : ∃ X, Hid (X = setB y29 p7 b A27 b.code.length c27) := ⟨_, rfl⟩
            have HPa := Lib.hid (show Blk wa p7 28 (bkC b A27 b.code.length c27) by rw [hwa.out]; exact setB_same I29_4.out rfl _ _ _ _)
            have HQa := Lib.hid (show Blk wa p8 28 (bkC zBk none 0 0) by rw [hwa.out]; exact setB_far I29_5.out (fun e => NE.out.1 e.symm) _ _ _ _)
            have HKa := Lib.hid (show Below w0.heap.size w0 wa by rw [hwa.out]; exact setB_below K29.out NE.out.2.1 _ _ _ _)
            have HOa := Lib.hid (show wa.ownsRow w0.heap.size 34 6 (.slice A27 b.code.length c27) b.code.length (aCs b.code) by rw [hwa.out]; exact setB_own (own_base I29_1.out BS.out.1) (fun g hg => (NA.out g hg).1) _ _ _ _)
            have HUa := Lib.hid (show wa.ownsRow w0.heap.size 34 6 (.slice A28 b.code.length c28) b.code.length (aCs b.code) by rw [hwa.out]; exact setB_own (own_base I29_3.out BS.out.2) (fun g hg => (NB.out g hg).1) _ _ _ _)
            refine hK _ _ (fun _ => by change Below z0 w0 (setB y29 p7 b A27 b.code.length c27); rw [← hwa.out, hz0.out]; exact HKa.out) ?_
            change wpAnyN _ _ _ _ _ _ _ _ _ (setB y29 p7 b A27 b.code.length c27)
            rw [← hwa.out]
            (try simp only [Act.put, List.setIfInBounds_toArray, List.set_cons_zero, List.set_cons_succ])
            clear hK t0 t1 t2 t3 t4 t5 t6 t7 t8 tl f0 f1 f2 f3 f4 f5 f6 f7 f8 hwa
            have t0 := HQa.out.cell 0
            have t1 := HQa.out.cell 1
            have t2 := HQa.out.cell 2
            have t3 := HQa.out.cell 3
            have t4 := HQa.out.cell 4
            have t5 := HQa.out.cell 5
            have t6 := HQa.out.cell 6
            have t7 := HQa.out.cell 7
            have t8 := HQa.out.cell 8
            have tl := HQa.out.lt
            simp at t0 t1 t2 t3 t4 t5 t6 t7 t8
            have f0 := HQa.out.frozen 0
            have f1 := HQa.out.frozen 1
            have f2 := HQa.out.frozen 2
            have f3 := HQa.out.frozen 3
            have f4 := HQa.out.frozen 4
            have f5 := HQa.out.frozen 5
            have f6 := HQa.out.frozen 6
            have f7 := HQa.out.frozen 7
            have f8 := HQa.out.frozen 8
            refine wpAnyN_one (i := 7) (by kernel_rfl) rfl (fun K hK => ?_)
            simp only [List.getElem_toArray, List.getElem_cons_zero, List.getElem_cons_succ]
            go_simp
            obtain ⟨wb, hwb⟩ : ∃ X, Hid (X = setB wa p8 b A28 b.code.length c28) := ⟨_, rfl⟩
            have HT := Lib.hid (show TwoC w0 wb b p7 p8 A27 A28 c27 c28 by rw [hwb.out]; exact ⟨setB_below HKa.out NE.out.2.2 _ _ _ _, setB_far HPa.out NE.out.1 _ _ _ _, setB_same HQa.out rfl _ _ _ _, setB_own HOa.out (fun g hg => (NA.out g hg).2) _ _ _ _, setB_own HUa.out (fun g hg => (NB.out g hg).2) _ _ _ _, NE.out, NA.out, NB.out, NC.out⟩)
            refine hK _ _ (fun _ => by change Below z0 w0 (setB wa p8 b A28 b.code.length c28); rw [← hwb.out, hz0.out]; exact HT.out.k) ?_
            change wpAnyN _ _ _ _ _ _ _ _ _ (setB wa p8 b A28 b.code.length c28)
            rw [← hwb.out]
            (try simp only [Act.put, List.setIfInBounds_toArray, List.set_cons_zero, List.set_cons_succ])
            refine wpAnyN_done (by kernel_rfl) ?_ _
            go_wp2_with fail
            go_meet
            exact ⟨_, _, _, _, _, _, rfl, rfl, by rw [← hw0.out]; exact HT⟩
          · simp only [List.getElem_toArray, List.getElem_cons_zero, List.getElem_cons_succ]
            go_simp
            obtain ⟨y30, hx30⟩ : ∃ X, Hid (X = y27.alloc (.cells (bkC zBk none 0 0) 28)) := ⟨_, rfl⟩
            have hb : Below y27.heap.size y27 y30 := by rw [hx30.out]; exact bAlloc _ _
            have K30 := Lib.hid (bNext K27.out hb)
            have I30_5 := Lib.hid (I27_5.out.next hb)
            have I30_1 := Lib.hid (own_next I27_1.out hb)
            have I30_4 := Lib.hid (show Blk y30 y27.heap.size 28 (bkC zBk none 0 0) by rw [hx30.out]; exact Blk.new _ _ _)
            have D30 := Lib.hid (show y27.heap.size + 1 = y30.heap.size by rw [hx30.out]; simp)
            rw [← hx30.out]
            clear hx30
            refine hK _ _ (fun _ => by show Below z0 w0 _; rw [hz0.out]; exact K30.out) ?_
            (try simp only [Act.put, List.setIfInBounds_toArray, List.set_cons_zero, List.set_cons_succ])
            clear hK hb
            refine wpAnyN_one (i := 3) (by kernel_rfl) rfl (fun K hK => ?_)
            simp only [List.getElem_toArray, List.getElem_cons_zero, List.getElem_cons_succ]
            go_simp
            refine (clone_any b A c _ ((HA0.out.next K30.out)) HC.out HZ.out).mono ?_
            rintro e y31 ⟨A31, c31, rfl, ho, hb⟩
            have K31 := Lib.hid (bNext K30.out hb)
            have I31_5 := Lib.hid (I30_5.out.next hb)
            have I31_1 := Lib.hid (own_next I30_1.out hb)
            have I31_4 := Lib.hid (I30_4.out.next hb)
            have I31_3 := Lib.hid ho
            have D31 := Lib.hid (show y30.heap.size ≤ y31.heap.size ∧ (∀ g, (Value.slice A31 b.code.length c31).ownBlock = some g → y30.heap.size ≤ g ∧ g < y31.heap.size) from ⟨hb.size, fun g hg => own_lt ho hg⟩)
            refine hK _ _ (fun _ => by show Below z0 w0 _; rw [hz0.out]; exact K31.out) ?_
            (try simp only [Act.put, List.setIfInBounds_toArray, List.set_cons_zero, List.set_cons_succ])
            clear hK hb ho
            obtain ⟨p7, hp7⟩ : ∃ X, Hid (X = y27.heap.size) := ⟨_, rfl⟩
            obtain ⟨p8, hp8⟩ : ∃ X, Hid (X = w0.heap.size) := ⟨_, rfl⟩
            have d26 := D26.out
            have d27 := D27.out.1
            have d30 := D30.out
            have d31 := D31.out.1
            have hp7e := hp7.out
            have hp8e := hp8.out
            have NE := Lib.hid (show p7 ≠ p8 ∧ w0.heap.size ≤ p7 ∧ w0.heap.size ≤ p8 by omega)
            have NA := Lib.hid (show ∀ g, (Value.slice A27 b.code.length c27).ownBlock = some g → g ≠ p7 ∧ g ≠ p8 by intro g hg; have := D27.out.2 g hg; omega)
            have NB := Lib.hid (show ∀ g, (Value.slice A31 b.code.length c31).ownBlock = some g → g ≠ p7 ∧ g ≠ p8 by intro g hg; have := D31.out.2 g hg; omega)
            have NC := Lib.hid (show ∀ g h, (Value.slice A27 b.code.length c27).ownBlock = some g → (Value.slice A31 b.code.length c31).ownBlock = some h → g ≠ h by intro g h hg hh; have := D27.out.2 g hg; have := D31.out.2 h hh; omega)
            have BS := Lib.hid (show w0.heap.size ≤ y26.heap.size ∧ w0.heap.size ≤ y30.heap.size by omega)
            rw [← hp7.out] at I31_4
            rw [← hp8.out] at I31_5
            rw [← hp7.out, ← hp8.out]
            clear d26 d27 d30 d31 hp7e hp8e hp7 hp8
            have t0 := I31_4.out.cell 0
            have t1 := I31_4.out.cell 1
            have t2 := I31_4.out.cell 2
            have t3 := I31_4.out.cell 3
            have t4 := I31_4.out.cell 4
            have t5 := I31_4.out.cell 5
            have t6 := I31_4.out.cell 6
            have t7 := I31_4.out.cell 7
            have t8 := I31_4.out.cell 8
            have tl := I31_4.out.lt
            simp at t0 t1 t2 t3 t4 t5 t6 t7 t8
            have f0 := I31_4.out.frozen 0
            have f1 := I31_4.out.frozen 1
            have f2 := I31_4.out.frozen 2
            have f3 := I31_4.out.frozen 3
            have f4 := I31_4.out.frozen 4
            have f5 := I31_4.out.frozen 5
            have f6 := I31_4.out.frozen 6
            have f7 := I31_4.out.frozen 7
            have f8 := I31_4.out.frozen 8
            refine wpAnyN_one (i := 6) (by kernel_rfl) rfl (fun K hK => ?_)
            simp only [List.getElem_toArray, List.getElem_cons_zero, List.getElem_cons_succ]
            go_simp
            obtain ⟨wa, hwa⟩ : ∃ X, Hid (X = setB y31 p7 b A27 b.code.length c27) := ⟨_, rfl⟩
            have HPa := Lib.hid (show Blk wa p7 28 (bkC b A27 b.code.length c27) by rw [hwa.out]; exact setB_same I31_4.out rfl _ _ _ _)
            have HQa := Lib.hid (show Blk wa p8 28 (bkC zBk none 0 0) by rw [hwa.out]; exact setB_far I31_5.out (fun e => NE.out.1 e.symm) _ _ _ _)
            have HKa := Lib.hid (show Below w0.heap.size w0 wa by rw [hwa.out]; exact setB_below K31.out NE.out.2.1 _ _ _ _)
            have HOa := Lib.hid (show wa.ownsRow w0.heap.size 34 6 (.slice A27 b.code.length c27) b.code.length (aCs b.code) by rw [hwa.out]; exact setB_own (own_base I31_1.out BS.out.1) (fun g hg => (NA.out g hg).1) _ _ _ _)
            have HUa := Lib.hid (show wa.ownsRow w0.heap.size 34 6 (.slice A31 b.code.length c31) b.code.length (aCs b.code) by rw [hwa.out]; exact setB_own (own_base I31_3.out BS.out.2) (fun g hg => (NB.out g hg).1) _ _ _ _)
            refine hK _ _ (fun _ => by change Below z0 w0 (setB y31 p7 b A27 b.code.length c27); rw [← hwa.out, hz0.out]; exact HKa.out) ?_
            change wpAnyN _ _ _ _ _ _ _ _ _ (setB y31 p7 b A27 b.code.length c27)
            rw [← hwa.out]
            (try simp only [Act.put, List.setIfInBounds_toArray, List.set_cons_zero, List.set_cons_succ])
            clear hK t0 t1 t2 t3 t4 t5 t6 t7 t8 tl f0 f1 f2 f3 f4 f5 f6 f7 f8 hwa
            have t0 := HQa.out.cell 0
            have t1 := HQa.out.cell 1
            have t2 := HQa.out.cell 2
            have t3 := HQa.out.cell 3
            have t4 := HQa.out.cell 4
            have t5 := HQa.out.cell 5
            have t6 := HQa.out.cell 6
            have t7 := HQa.out.cell 7
            have t8 := HQa.out.cell 8
            have tl := HQa.out.lt
            simp at t0 t1 t2 t3 t4 t5 t6 t7 t8
            have f0 := HQa.out.frozen 0
            have f1 := HQa.out.frozen 1
            have f2 := HQa.out.frozen 2
            have f3 := HQa.out.frozen 3
            have f4 := HQa.out.frozen 4
            have f5 := HQa.out.frozen 5
            have f6 := HQa.out.frozen 6
            have f7 := HQa.out.frozen 7
            have f8 := HQa.out.frozen 8
            refine wpAnyN_one (i := 7) (by kernel_rfl) rfl (fun K hK => ?_)
            simp only [List.getElem_toArray, List.getElem_cons_zero, List.getElem_cons_succ]
            go_simp
            obtain ⟨wb, hwb⟩ : ∃ X, Hid (X = setB wa p8 b A31 b.code.length c31) := ⟨_, rfl⟩
            have HT := Lib.hid (show TwoC w0 wb b p7 p8 A27 A31 c27 c31 by rw [hwb.out]; exact ⟨setB_below HKa.out NE.out.2.2 _ _ _ _, setB_far HPa.out NE.out.1 _ _ _ _, setB_same HQa.out rfl _ _ _ _, setB_own HOa.out (fun g hg => (NA.out g hg).2) _ _ _ _, setB_own HUa.out (fun g hg => (NB.out g hg).2) _ _ _ _, NE.out, NA.out, NB.out, NC.out⟩)
            refine hK _ _ (fun _ => by change Below z0 w0 (setB wa p8 b A31 b.code.length c31); rw [← hwb.out, hz0.out]; exact HT.out.k) ?_
            change wpAnyN _ _ _ _ _ _ _ _ _ (setB wa p8 b A31 b.code.length c31)
            rw [← hwb.out]
            (try simp only [Act.put, List.setIfInBounds_toArray, List.set_cons_zero, List.set_cons_succ])
            refine wpAnyN_done (by kernel_rfl) ?_ _
            go_wp2_with fail
            go_meet
            exact ⟨_, _, _, _, _, _, rfl, rfl, by rw [← hw0.out]; exact HT⟩
        · simp only [List.getElem_toArray, List.getElem_cons_zero, List.getElem_cons_succ]
          go_simp
          obtain ⟨y32, hx32⟩ : ∃ X, Hid (X = y26.alloc (.cells (bkC zBk none 0 0) 28)) := ⟨_, rfl⟩
          have hb : Below y26.heap.size y26 y32 := by rw [hx32.out]; exact bAlloc _ _
          have K32 := Lib.hid (bNext K26.out hb)
          have I32_5 := Lib.hid (I26_5.out.next hb)
          have I32_4 := Lib.hid (show Blk y32 y26.heap.size 28 (bkC zBk none 0 0) by rw [hx32.out]; exact Blk.new _ _ _)
          have D32 := Lib.hid (show y26.heap.size + 1 = y32.heap.size by rw [hx32.out]; simp)
          rw [← hx32.out]
          clear hx32
          refine hK _ _ (fun _ => by show Below z0 w0 _; rw [hz0.out]; exact K32.out) ?_
          (try simp only [Act.put, List.setIfInBounds_toArray, List.set_cons_zero, List.set_cons_succ])
          clear hK hb
          refine wpAnyN_one (i := 1) (by kernel_rfl) rfl (fun K hK => ?_)
          simp only [List.getElem_toArray, List.getElem_cons_zero, List.getElem_cons_succ]
          go_simp
          refine (clone_any b A c _ ((HA0.out.next K32.out)) HC.out HZ.out).mono ?_
          rintro e y33 ⟨A33, c33, rfl, ho, hb⟩
          have K33 := Lib.hid (bNext K32.out hb)
          have I33_5 := Lib.hid (I32_5.out.next hb)
          have I33_4 := Lib.hid (I32_4.out.next hb)
          have I33_1 := Lib.hid ho
          have D33 := Lib.hid (show y32.heap.size ≤ y33.heap.size ∧ (∀ g, (Value.slice A33 b.code.length c33).ownBlock = some g → y32.heap.size ≤ g ∧ g < y33.heap.size) from ⟨hb.size, fun g hg => own_lt ho hg⟩)
          refine hK _ _ (fun _ => by show Below z0 w0 _; rw [hz0.out]; exact K33.out) ?_
          (try simp only [Act.put, List.setIfInBounds_toArray, List.set_cons_zero, List.set_cons_succ])
          clear hK hb ho
          refine wpAnyN_one (i := 3) (by kernel_rfl) rfl (fun K hK => ?_)
          simp only [List.getElem_toArray, List.getElem_cons_zero, List.getElem_cons_succ]
          go_simp
          refine (clone_any b A c _ ((HA0.out.next K33.out)) HC.out HZ.out).mono ?_
          rintro e y34 ⟨A34, c34, rfl, ho, hb⟩
          have K34 := Lib.hid (bNext K33.out hb)
          have I34_5 := Lib.hid (I33_5.out.next hb)
          have I34_4 := Lib.hid (I33_4.out.next hb)
          have I34_1 := Lib.hid (own_next I33_1.out hb)
          have I34_3 := Lib.hid ho
          have D34 := Lib.hid (show y33.heap.size ≤ y34.heap.size ∧ (∀ g, (Value.slice A34 b.code.length c34).ownBlock = some g → y33.heap.size ≤ g ∧ g < y34.heap.size) from ⟨hb.size, fun g hg => own_lt ho hg⟩)
          refine hK _ _ (fun _ => by show Below z0 w0 _; rw [hz0.out]; exact K34.out) ?_
          (try simp only [Act.put, List.setIfInBounds_toArray, List.set_cons_zero, List.set_cons_succ])
          clear hK hb ho
          obtain ⟨p7, hp7⟩ : ∃ X, Hid (X = y26.heap.size) := ⟨_, rfl⟩
          obtain ⟨p8, hp8⟩ : ∃ X, Hid (X = w0.heap.size) := ⟨_, rfl⟩
          have d26 := D26.out
          have d32 := D32.out
          have d33 := D33.out.1
          have d34 := D34.out.1
          have hp7e := hp7.out
          have hp8e := hp8.out
          have NE := Lib.hid (show p7 ≠ p8 ∧ w0.heap.size ≤ p7 ∧ w0.heap.size ≤ p8 by omega)
          have NA := Lib.hid (show ∀ g, (Value.slice A33 b.code.length c33).ownBlock = some g → g ≠ p7 ∧ g ≠ p8 by intro g hg; have := D33.out.2 g hg; omega)
          have NB := Lib.hid (show ∀ g, (Value.slice A34 b.code.length c34).ownBlock = some g → g ≠ p7 ∧ g ≠ p8 by intro g hg; have := D34.out.2 g hg; omega)
          have NC := Lib.hid (show ∀ g h, (Value.slice A33 b.code.length c33).ownBlock = some g → (Value.slice A34 b.code.length c34).ownBlock = some h → g ≠ h by intro g h hg hh; have := D33.out.2 g hg; have := D34.out.2 h hh; omega)
          have BS := Lib.hid (show w0.heap.size ≤ y32.heap.size ∧ w0.heap.size ≤ y33.heap.size by omega)
          rw [← hp7.out] at I34_4
          rw [← hp8.out] at I34_5
          rw [← hp7.out, ← hp8.out]
          clear d26 d32 d33 d34 hp7e hp8e hp7 hp8
          have t0 := I34_4.out.cell 0
          have t1 := I34_4.out.cell 1
          have t2 := I34_4.out.cell 2
          have t3 := I34_4.out.cell 3
          have t4 := I34_4.out.cell 4
          have t5 := I34_4.out.cell 5
          have t6 := I34_4.out.cell 6
          have t7 := I34_4.out.cell 7
          have t8 := I34_4.out.cell 8
          have tl := I34_4.out.lt
          simp at t0 t1 t2 t3 t4 t5 t6 t7 t8
          have f0 := I34_4.out.frozen 0
          have f1 := I34_4.out.frozen 1
          have f2 := I34_4.out.frozen 2
          have f3 := I34_4.out.frozen 3
          have f4 := I34_4.out.frozen 4
          have f5 := I34_4.out.frozen 5
          have f6 := I34_4.out.frozen 6
          have f7 := I34_4.out.frozen 7
          have f8 := I34_4.out.frozen 8
          refine wpAnyN_one (i := 6) (by kernel_rfl) rfl (fun K hK => ?_)
          simp only [List.getElem_toArray, List.getElem_cons_zero, List.getElem_cons_succ]
          go_simp
          obtain ⟨wa, hwa⟩ : ∃ X, Hid (X = setB y34 p7 b A33 b.code.length c33) := ⟨_, rfl⟩
          have HPa := Lib.hid (show Blk wa p7 28 (bkC b A33 b.code.length c33) by rw [hwa.out]; exact setB_same I34_4.out rfl _ _ _ _)
          have HQa := Lib.hid (show Blk wa p8 28 (bkC zBk none 0 0) by rw [hwa.out]; exact setB_far I34_5.out (fun e => NE.out.1 e.symm) _ _ _ _)
          have HKa := Lib.hid (show Below w0.heap.size w0 wa by rw [hwa.out]; exact setB_below K34.out NE.out.2.1 _ _ _ _)
          have HOa := Lib.hid (show wa.ownsRow w0.heap.size 34 6 (.slice A33 b.code.length c33) b.code.length (aCs b.code) by rw [hwa.out]; exact setB_own (own_base I34_1.out BS.out.1) (fun g hg => (NA.out g hg).1) _ _ _ _)
          have HUa := Lib.hid (show wa.ownsRow w0.heap.size 34 6 (.slice A34 b.code.length c34) b.code.length (aCs b.code) by rw [hwa.out]; exact setB_own (own_base I34_3.out BS.out.2) (fun g hg => (NB.out g hg).1) _ _ _ _)
          refine hK _ _ (fun _ => by change Below z0 w0 (setB y34 p7 b A33 b.code.length c33); rw [← hwa.out, hz0.out]; exact HKa.out) ?_
          change wpAnyN _ _ _ _ _ _ _ _ _ (setB y34 p7 b A33 b.code.length c33)
          rw [← hwa.out]
          (try simp only [Act.put, List.setIfInBounds_toArray, List.set_cons_zero, List.set_cons_succ])
          clear hK t0 t1 t2 t3 t4 t5 t6 t7 t8 tl f0 f1 f2 f3 f4 f5 f6 f7 f8 hwa
          have t0 := HQa.out.cell 0
          have t1 := HQa.out.cell 1
          have t2 := HQa.out.cell 2
          have t3 := HQa.out.cell 3
          have t4 := HQa.out.cell 4
          have t5 := HQa.out.cell 5
          have t6 := HQa.out.cell 6
          have t7 := HQa.out.cell 7
          have t8 := HQa.out.cell 8
          have tl := HQa.out.lt
          simp at t0 t1 t2 t3 t4 t5 t6 t7 t8
          have f0 := HQa.out.frozen 0
          have f1 := HQa.out.frozen 1
          have f2 := HQa.out.frozen 2
          have f3 := HQa.out.frozen 3
          have f4 := HQa.out.frozen 4
          have f5 := HQa.out.frozen 5
          have f6 := HQa.out.frozen 6
          have f7 := HQa.out.frozen 7
          have f8 := HQa.out.frozen 8
          refine wpAnyN_one (i := 7) (by kernel_rfl) rfl (fun K hK => ?_)
          simp only [List.getElem_toArray, List.getElem_cons_zero, List.getElem_cons_succ]
          go_simp
          obtain ⟨wb, hwb⟩ : ∃ X, Hid (X = setB wa p8 b A34 b.code.length c34) := ⟨_, rfl⟩
          have HT := Lib.hid (show TwoC w0 wb b p7 p8 A33 A34 c33 c34 by rw [hwb.out]; exact ⟨setB_below HKa.out NE.out.2.2 _ _ _ _, setB_far HPa.out NE.out.1 _ _ _ _, setB_same HQa.out rfl _ _ _ _, setB_own HOa.out (fun g hg => (NA.out g hg).2) _ _ _ _, setB_own HUa.out (fun g hg => (NB.out g hg).2) _ _ _ _, NE.out, NA.out, NB.out, NC.out⟩)
          refine hK _ _ (fun _ => by change Below z0 w0 (setB wa p8 b A34 b.code.length c34); rw [← hwb.out, hz0.out]; exact HT.out.k) ?_
          change wpAnyN _ _ _ _ _ _ _ _ _ (setB wa p8 b A34 b.code.length c34)
          rw [← hwb.out]
          (try simp only [Act.put, List.setIfInBounds_toArray, List.set_cons_zero, List.set_cons_succ])
          refine wpAnyN_done (by kernel_rfl) ?_ _
          go_wp2_with fail
          go_meet
          exact ⟨_, _, _, _, _, _, rfl, rfl, by rw [← hw0.out]; exact HT⟩
    case rest =>
      obtain ⟨p7, p8, A1, A2, c1, c2, rfl, rfl, HT⟩ := hcut
      have HPV := Lib.hid (va_parts HV.out)
      obtain ⟨n, hn⟩ : ∃ n, Hid (n = b.code.length) := ⟨_, rfl⟩
      have hn1 : 1 ≤ n := by rw [hn.out]; exact HPV.out.2.1
      have hn2 : n ≤ 131072 := by rw [hn.out]; exact HPV.out.2.2.1
      have HKC := Lib.hid (show Below w.heap.size w wc from bNext HK2.out ((bDrew w2).trans HT.out.k))
      have HKD := Lib.hid (show Below w2.heap.size w2 wc from (bDrew w2).trans HT.out.k)
      have HXC := Lib.hid (BlkNext HX2.out HKD.out)
      obtain ⟨m, hm⟩ : ∃ m : Nat, Hid ((m : Int) = at0) := ⟨at0.toNat, Lib.hid (by have := HAT.out; omega)⟩
      have HM := Lib.hid (show m ≤ 65535 by have := HAT.out; have := hm.out; omega)
      rw [← hm.out]
      have hcv : IntKind.wrap .i64 (m : Int) = (m : Int) := wrapI (by have := HM.out; omega)
      have htm : (m : Int).tmod (n : Int) = ((m % n : Nat) : Int) := by rw [Int.tmod_eq_emod_of_nonneg (by omega)]; omega
      have hkn : m % n < n := Nat.mod_lt _ hn1
      obtain ⟨k, hk⟩ : ∃ k, Hid (k = m % n) := ⟨_, rfl⟩
      rw [← hk.out] at htm hkn
      have hnz : ((n : Int) == 0) = false := by simp; omega
      have hcap : n ≤ c1 := by
        obtain ⟨A', c', e, hca⟩ := own_form HT.out.oa
        injection e with _ _ e3
        have := hca.1
        have := hn.out
        omega
      go_upto_region 4 with fail
      obtain ⟨w4, hw4⟩ : ∃ X, Hid (X = wc.drew) := ⟨_, rfl⟩
      refine wp_region_N (fun X => X = w4) (fun k => k != 10) (by kernel_rfl) ?_
      rw [← hw4.out]
      have hS0 : w4 = w4 := rfl
      have H7 := Lib.hid (show Blk w4 p7 28 (bkC b A1 n c1) by rw [hw4.out, hn.out]; exact HT.out.bp.next (bDrew wc))
      have t8 := H7.out.cell 8
      have f8 := H7.out.frozen 8
      have tl := H7.out.lt
      simp at t8
      refine wpAnyN_take (i := 0) (v := .pointer (some ⟨p7, 8, none⟩)) rfl (by kernel_rfl) (by kernel_rfl) (by kernel_rfl) (by kernel_rfl) (fun _ _ _ h => h) (Or.inl ⟨by kernel_rfl, ?hv0⟩) (by assumption) ?_
      case hv0 => intro w hSw; rw [show w = w4 from hSw]; go_simp; skip
      simp only [Act.put, List.getElem_toArray, List.getElem_cons_zero, List.setIfInBounds_toArray, List.set_cons_zero, List.set_cons_succ]
      refine wpAnyN_take (i := 1) (v := .slice A1 n c1) rfl (by kernel_rfl) (by kernel_rfl) (by kernel_rfl) (by kernel_rfl) (fun _ _ _ h => h) (Or.inl ⟨by kernel_rfl, ?hv1⟩) (by assumption) ?_
      case hv1 => intro w hSw; rw [show w = w4 from hSw]; go_simp; skip
      simp only [Act.put, List.getElem_toArray, List.getElem_cons_zero, List.getElem_cons_succ, List.setIfInBounds_toArray, List.set_cons_zero, List.set_cons_succ]
      refine wpAnyN_take (i := 2) (v := .int .u16 (m : Int)) rfl (by kernel_rfl) (by kernel_rfl) (by kernel_rfl) (by kernel_rfl) (fun _ _ _ h => h) (Or.inl ⟨by kernel_rfl, ?hv2⟩) (by assumption) ?_
      case hv2 => intro w hSw; rw [show w = w4 from hSw]; go_simp; skip
      simp only [Act.put, List.getElem_toArray, List.getElem_cons_zero, List.getElem_cons_succ, List.setIfInBounds_toArray, List.set_cons_zero, List.set_cons_succ]
      refine wpAnyN_take (i := 3) (v := .int .i64 (m : Int)) rfl (by kernel_rfl) (by kernel_rfl) (by kernel_rfl) (by kernel_rfl) (fun _ _ _ h => h) (Or.inl ⟨by kernel_rfl, ?hv3⟩) (by assumption) ?_
      case hv3 => intro w hSw; rw [show w = w4 from hSw]; go_simp; skip
      simp only [Act.put, List.getElem_toArray, List.getElem_cons_zero, List.getElem_cons_succ, List.setIfInBounds_toArray, List.set_cons_zero, List.set_cons_succ]
      refine wpAnyN_take (i := 4) (v := .pointer (some ⟨p7, 8, none⟩)) rfl (by kernel_rfl) (by kernel_rfl) (by kernel_rfl) (by kernel_rfl) (fun _ _ _ h => h) (Or.inl ⟨by kernel_rfl, ?hv4⟩) (by assumption) ?_
      case hv4 => intro w hSw; rw [show w = w4 from hSw]; go_simp; skip
      simp only [Act.put, List.getElem_toArray, List.getElem_cons_zero, List.getElem_cons_succ, List.setIfInBounds_toArray, List.set_cons_zero, List.set_cons_succ]
      refine wpAnyN_take (i := 5) (v := .slice A1 n c1) rfl (by kernel_rfl) (by kernel_rfl) (by kernel_rfl) (by kernel_rfl) (fun _ _ _ h => h) (Or.inl ⟨by kernel_rfl, ?hv5⟩) (by assumption) ?_
      case hv5 => intro w hSw; rw [show w = w4 from hSw]; go_simp; skip
      simp only [Act.put, List.getElem_toArray, List.getElem_cons_zero, List.getElem_cons_succ, List.setIfInBounds_toArray, List.set_cons_zero, List.set_cons_succ]
      refine wpAnyN_take (i := 6) (v := .int .i64 (n : Int)) rfl (by kernel_rfl) (by kernel_rfl) (by kernel_rfl) (by kernel_rfl) (fun _ _ _ h => h) (Or.inl ⟨by kernel_rfl, ?hv6⟩) (by assumption) ?_
      case hv6 => intro w hSw; rw [show w = w4 from hSw]; go_simp; skip
      simp only [Act.put, List.getElem_toArray, List.getElem_cons_zero, List.getElem_cons_succ, List.setIfInBounds_toArray, List.set_cons_zero, List.set_cons_succ]
      refine wpAnyN_take (i := 7) (v := .int .i64 (k : Int)) rfl (by kernel_rfl) (by kernel_rfl) (by kernel_rfl) (by kernel_rfl) (fun _ _ _ h => h) (Or.inl ⟨by kernel_rfl, ?hv7⟩) (by assumption) ?_
      case hv7 => intro w hSw; rw [show w = w4 from hSw]; go_simp; omega
      simp only [Act.put, List.getElem_toArray, List.getElem_cons_zero, List.getElem_cons_succ, List.setIfInBounds_toArray, List.set_cons_zero, List.set_cons_succ]
      refine wpAnyN_take (i := 8) (v := .slice A1 k c1) rfl (by kernel_rfl) (by kernel_rfl) (by kernel_rfl) (by kernel_rfl) (fun _ _ _ h => h) (Or.inl ⟨by kernel_rfl, ?hv8⟩) (by assumption) ?_
      case hv8 => intro w hSw; rw [show w = w4 from hSw]; go_simp; intro h9;omega
      simp only [Act.put, List.getElem_toArray, List.getElem_cons_zero, List.getElem_cons_succ, List.setIfInBounds_toArray, List.set_cons_zero, List.set_cons_succ]
      refine wpAnyN_take (i := 9) (v := .pointer (some ⟨p7, 8, none⟩)) rfl (by kernel_rfl) (by kernel_rfl) (by kernel_rfl) (by kernel_rfl) (fun _ _ _ h => h) (Or.inl ⟨by kernel_rfl, ?hv9⟩) (by assumption) ?_
      case hv9 => intro w hSw; rw [show w = w4 from hSw]; go_simp; skip
      simp only [Act.put, List.getElem_toArray, List.getElem_cons_zero, List.getElem_cons_succ, List.setIfInBounds_toArray, List.set_cons_zero, List.set_cons_succ]
      refine wpAnyN_one (i := 10) (by kernel_rfl) rfl (fun K hK => ?_)
      simp only [List.getElem_toArray, List.getElem_cons_zero, List.getElem_cons_succ]
      go_simp
      refine hK _ _ (fun h => absurd h (by decide)) ?_
      (try simp only [Act.put, List.setIfInBounds_toArray, List.set_cons_zero, List.set_cons_succ])
      clear hK
      refine wpAnyN_done (by kernel_rfl) ?_ _
      obtain ⟨w5, hw5⟩ : ∃ X, Hid (X = w4.setCell ⟨p7, 8, none⟩ (.slice A1 k c1)) := ⟨_, rfl⟩
      rw [← hw5.out]
      obtain ⟨z, hz⟩ : ∃ X, Hid (X = w2.drew.heap.size) := ⟨_, rfl⟩
      obtain ⟨ne, ge7, ge8⟩ := HT.out.ne
      have GE := Lib.hid (show p7 ≠ p8 ∧ z ≤ p7 ∧ z ≤ p8 by rw [hz.out]; exact HT.out.ne)
      have NA := Lib.hid (show ∀ g, (Value.slice A1 n c1).ownBlock = some g → g ≠ p7 ∧ g ≠ p8 by rw [hn.out]; exact HT.out.na)
      have NB := Lib.hid (show ∀ g, (Value.slice A2 n c2).ownBlock = some g → g ≠ p7 ∧ g ≠ p8 by rw [hn.out]; exact HT.out.nb)
      have AB := Lib.hid (show ∀ g h, (Value.slice A1 n c1).ownBlock = some g → (Value.slice A2 n c2).ownBlock = some h → g ≠ h by rw [hn.out]; exact HT.out.ab)
      have HP5 := Lib.hid (show Blk w5 p7 28 (bkC b A1 k c1) by rw [hw5.out]; exact H7.out.set_ 8 _)
      have HQ5 := Lib.hid (show Blk w5 p8 28 (bkC b A2 n c2) by rw [hw5.out, hw4.out, hn.out]; exact (HT.out.bq.next (bDrew wc)).far (fun e => ne e.symm) _)
      have HOA5 := Lib.hid (show w5.ownsRow z 34 6 (.slice A1 n c1) n (aCs b.code) by
        rw [hw5.out, hw4.out, hn.out, hz.out]
        exact ownsRow_setCell_other (own_next HT.out.oa (bDrew wc)) (fun e => (HT.out.na _ e).1 rfl) _)
      have HOB5 := Lib.hid (show w5.ownsRow z 34 6 (.slice A2 n c2) n (aCs b.code) by
        rw [hw5.out, hw4.out, hn.out, hz.out]
        exact ownsRow_setCell_other (own_next HT.out.ob (bDrew wc)) (fun e => (HT.out.nb _ e).1 rfl) _)
      have HB5 := Lib.hid (show Below z w2.drew w5 by
        rw [hw5.out, hw4.out, hz.out]
        exact (HT.out.k.drew).setCell ge7 _)
      have HX5 := Lib.hid (show BoxI w5 q x from Blk.below (t := 34) (BlkNext HX2.out (bDrew w2)) (by rw [← hz.out]; exact HB5.out) (Blk.lt (BlkNext HX2.out (bDrew w2))))
      have HZS := Lib.hid (show z ≤ w5.heap.size by rw [hz.out]; have := HB5.out.size; exact this)
      clear hw5 H7 t8 f8 tl ne ge7 ge8 hcv htm hnz hw4
      have t8 := HQ5.out.cell 8
      have f8 := HQ5.out.frozen 8
      have tl := HQ5.out.lt
      simp at t8
      obtain ⟨x0, x1, x2, x3, x4, x5⟩ := BoxI.cells HX5.out
      go_wp2_with (at_builtin; refine wpList_append_ins rfl (.tmp 28) (.tmp 30) rfl z (.slice A2 n c2) b.code rfl (by rw [← hn.out]; exact HOB5.out.alloc _) (w5.heap.size + 1) (some ⟨w5.heap.size, 0, none⟩) 1 1 [x] rfl (lit_ins w5 x) ⟨Nat.le_refl _, fun h => by cases h⟩ (by have := hn.out; omega) (by have := HZS.out; simp; omega) ?_)
      intro v' w6 ho hg hat
      obtain ⟨A3, c3, rfl, -⟩ := own_form ho
      obtain ⟨wx, hwx⟩ : ∃ X, Hid (X = w5.alloc (.cells #[.int .i64 x.op, .int .i64 x.r, .int .i64 x.a, .int .i64 x.n, .string x.nm, .int .i64 x.ar] 34)) := ⟨_, rfl⟩
      rw [← hwx.out] at hg
      have HP6 := Lib.hid (show Blk w6 p7 28 (bkC b A1 k c1) from (show Blk wx p7 28 (bkC b A1 k c1) by rw [hwx.out]; exact HP5.out.alloc _).grown hg (fun e => (NB.out _ e).1 rfl))
      have HQ6 := Lib.hid (show Blk w6 p8 28 (bkC b A2 n c2) from (show Blk wx p8 28 (bkC b A2 n c2) by rw [hwx.out]; exact HQ5.out.alloc _).grown hg (fun e => (NB.out _ e).2 rfl))
      have HOA6 := Lib.hid (show w6.ownsRow z 34 6 (.slice A1 n c1) n (aCs b.code) from own_stay (show wx.ownsRow z 34 6 (.slice A1 n c1) n (aCs b.code) by rw [hwx.out]; exact HOA5.out.alloc _) (fun g hg1 => hg.block g (own_lt (show wx.ownsRow z 34 6 (.slice A1 n c1) n (aCs b.code) by rw [hwx.out]; exact HOA5.out.alloc _) hg1).2 (fun e => AB.out g g hg1 e.symm rfl)))
      have HB6 := Lib.hid (show Below z w2.drew w6 from (show Below z w2.drew wx by rw [hwx.out]; exact HB5.out.alloc HZS.out _).grown hg (by have := HZS.out; rw [hwx.out]; simp; omega) (fun g e => (own_lt HOB5.out e).1))
      have N3 := Lib.hid (show (Value.slice A3 (b.code.length + 1) c3).ownBlock ≠ some p7 ∧ (Value.slice A3 (b.code.length + 1) c3).ownBlock ≠ some p8 by
        have h1 := HP5.out.lt
        have h2 := HQ5.out.lt
        rcases hat with h | h
        · rw [h]; exact ⟨fun e => (NB.out _ e).1 rfl, fun e => (NB.out _ e).2 rfl⟩
        · rw [h]; exact ⟨fun e => by injection e with e; (try simp at e); omega, fun e => by injection e with e; (try simp at e); omega⟩)
      have HO6 := Lib.hid ho
      clear ho hg hat hwx t8 f8 tl x0 x1 x2 x3 x4 x5
      have t8 := HQ6.out.cell 8
      have f8 := HQ6.out.frozen 8
      have tl := HQ6.out.lt
      simp at t8
      go_upto_region 6 with fail
      obtain ⟨w7, hw7⟩ : ∃ X, Hid (X = w6.setCell ⟨p8, 8, none⟩ (.slice A3 (b.code.length + 1) c3)) := ⟨_, rfl⟩
      rw [← hw7.out]
      clear t8 f8 tl
      have HP7 := Lib.hid (show Blk w7 p7 28 (bkC b A1 k c1) by rw [hw7.out]; exact HP6.out.far GE.out.1 _)
      have HQ7 := Lib.hid (show Blk w7 p8 28 (bkC b A3 (b.code.length + 1) c3) by rw [hw7.out]; exact HQ6.out.set_ 8 _)
      have HOA7 := Lib.hid (show w7.ownsRow z 34 6 (.slice A1 n c1) n (aCs b.code) by rw [hw7.out]; exact ownsRow_setCell_other HOA6.out (fun e => (NA.out _ e).2 rfl) _)
      have HO7 := Lib.hid (show w7.ownsRow z 34 6 (.slice A3 (b.code.length + 1) c3) (b.code.length + 1) (aCs (b.code ++ [x])) by rw [hw7.out]; exact ownsRow_setCell_other HO6.out N3.out.2 _)
      have HB7 := Lib.hid (show Below z w2.drew w7 by rw [hw7.out]; exact HB6.out.setCell GE.out.2.2 _)
      clear hw7
      have HBW := Lib.hid (show Below w2.heap.size w2 w7 by rw [hz.out] at HB7; exact (bDrew w2).trans HB7.out)
      have HE7 := Lib.hid (HE2.out.next HBW.out)
      have HIS := Lib.hid (show InsAt w7 w7.heap.size A1 k (b.code.take k) from (own_ins' HOA7.out (by omega)).take (by omega))
      have HIL := Lib.hid (show InsAt w7 w7.heap.size A3 (b.code.length + 1) (b.code ++ [x]) from own_ins' HO7.out (by have := hn.out; omega))
      have hcs := valid_any { b with code := b.code.take k } A1 c1 w7 (by
        show InsAt w7 w7.heap.size A1 (b.code.take k).length (b.code.take k)
        rw [HIS.out.len]; exact HIS.out)
      rw [va_short HV.out (by have := hn.out; omega)] at hcs
      rw [show (({ b with code := b.code.take k } : Bk).v A1 c1) = .agg (bkC b A1 k c1) by show Value.agg (bkC b A1 (b.code.take k).length c1) = _; rw [HIS.out.len]] at hcs
      have HCS := Lib.hid hcs
      clear hcs
      have t0 := HP7.out.cell 0
      have t1 := HP7.out.cell 1
      have t2 := HP7.out.cell 2
      have t3 := HP7.out.cell 3
      have t4 := HP7.out.cell 4
      have t5 := HP7.out.cell 5
      have t6 := HP7.out.cell 6
      have t7 := HP7.out.cell 7
      have t8 := HP7.out.cell 8
      have tl := HP7.out.lt
      simp at t0 t1 t2 t3 t4 t5 t6 t7 t8
      go_wp2_with fail
      refine HCS.out.mono ?_
      rintro e w8 ⟨rfl, hb⟩
      have HB8 := Lib.hid (bNext HBW.out hb)
      have HQ8 := Lib.hid (HQ7.out.next hb)
      have HIL8 := Lib.hid (HIL.out.next hb)
      have HE8 := Lib.hid (HE7.out.next hb)
      clear hb t0 t1 t2 t3 t4 t5 t6 t7 t8 tl
      have hcs := valid_any { b with code := b.code ++ [x] } A3 c3 w8 (by
        show InsAt w8 w8.heap.size A3 (b.code ++ [x]).length (b.code ++ [x])
        rw [HIL8.out.len]; exact HIL8.out)
      rw [va_long HV.out x] at hcs
      rw [show (({ b with code := b.code ++ [x] } : Bk).v A3 c3) = .agg (bkC b A3 (b.code.length + 1) c3) by show Value.agg (bkC b A3 (b.code ++ [x]).length c3) = _; rw [HIL8.out.len]] at hcs
      have HCL := Lib.hid hcs
      clear hcs
      have t0 := HQ8.out.cell 0
      have t1 := HQ8.out.cell 1
      have t2 := HQ8.out.cell 2
      have t3 := HQ8.out.cell 3
      have t4 := HQ8.out.cell 4
      have t5 := HQ8.out.cell 5
      have t6 := HQ8.out.cell 6
      have t7 := HQ8.out.cell 7
      have t8 := HQ8.out.cell 8
      have tl := HQ8.out.lt
      simp at t0 t1 t2 t3 t4 t5 t6 t7 t8
      go_wp2_with fail
      refine HCL.out.mono ?_
      rintro e w9 ⟨rfl, hb⟩
      have HB9 := Lib.hid (bNext HB8.out hb)
      have HE9 := Lib.hid (HE8.out.next hb)
      clear hb t0 t1 t2 t3 t4 t5 t6 t7 t8 tl
      go_wp2_with fail
      refine (awake_any w9 HE9.out).mono ?_
      rintro e w10 ⟨rfl, hb⟩
      have HB10 := Lib.hid (bNext HB9.out hb)
      clear hb
      go_wp2_with fail
      go_ret
      exact ⟨rfl, bNext HK2.out HB10.out⟩
end Go.Proofs.YtbipeakinmbdiaaGreatDoor
