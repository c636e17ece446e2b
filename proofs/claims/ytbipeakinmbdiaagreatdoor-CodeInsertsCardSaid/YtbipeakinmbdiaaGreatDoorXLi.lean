/-
  Walks: the law's own functions on blocks: is an instruction an argument; is a register named; an instruction inserted.
-/
import Derived.Test.YtbipeakinmbdiaaGreatDoorXh
import Derived.Test.YtbipeakinmbdiaaGreatDoorXLh
import Derived.Test.YtbipeakinmbdiaaGreatDoorKs
import Derived.Test.YtbipeakinmbdiaaGreatDoorKa
namespace Go.Proofs.YtbipeakinmbdiaaGreatDoor
open Go.RowKit

set_option maxRecDepth 100000 in
set_option maxHeartbeats 1000000 in
theorem expected_any (b : Bk) (A : Option Addr) (c k : Nat) (x : In) (w : World) (ha : InsAt w w.heap.size A b.code.length b.code) (hx : b.code[k]? = some x) :
    Calls Tryz.prog 28 #[b.v A c, .int .i64 (k : Int)] w fun e w' => e = .returned (.bool (isArg x.op)) ∧ Below w.heap.size w w' := by
  obtain ⟨n, hn⟩ : ∃ n, Hid (n = b.code.length) := ⟨_, rfl⟩
  have hk : k < n := by rw [hn.out]; exact (List.getElem?_eq_some_iff.1 hx).1
  obtain ⟨w1, hw1⟩ : ∃ X, Hid (X = w.alloc (.cells (bkC b A n c) 28)) := ⟨_, rfl⟩
  obtain ⟨p, hp⟩ : ∃ p, Hid (p = w.heap.size) := ⟨_, rfl⟩
  have HP := Lib.hid (show Blk w1 p 28 (bkC b A n c) by rw [hw1.out, hp.out]; exact Blk.new _ _ _)
  have HK := Lib.hid (show Below w.heap.size w w1 by rw [hw1.out]; exact bAlloc _ _)
  have hn3 : n ≤ 3000000000000 := by rw [hn.out]; exact ha.1.2
  obtain ⟨bk, off, hA, hb, hcs⟩ := (ha.next HK.out).2 (by rw [← hn.out]; omega)
  obtain ⟨c0, -⟩ := hcs k x hx
  subst hA
  clear ha hcs
  unfold Bk.v
  rw [← hn.out]
  go_enter Tryz.func28, Tryz.ntmps28
  go_upto_region 1 with fail
  rw [← hw1.out, ← hp.out]
  have p8 := HP.out.cell 8
  have pl := HP.out.lt
  simp at p8
  obtain ⟨t1, h1⟩ : ∃ t, decide (6 ≤ x.op) = t := ⟨_, rfl⟩
  obtain ⟨t2, h2⟩ : ∃ t, decide (x.op ≤ 10) = t := ⟨_, rfl⟩
  have HI := Lib.hid (show isArg x.op = (t1 && t2) by unfold isArg; rw [h1, h2])
  cases t1
  · go_wp2_with fail
    go_ret
    exact ⟨by rw [HI.out]; rfl, HK.out⟩
  · cases t2
    · go_wp2_with fail
      go_ret
      exact ⟨by rw [HI.out]; rfl, HK.out⟩
    · go_wp2_with fail
      go_ret
      exact ⟨by rw [HI.out]; rfl, HK.out⟩
set_option maxRecDepth 100000 in
set_option maxHeartbeats 2000000 in
theorem uses_any (b : Bk) (A : Option Addr) (c : Nat) (f : Int) (w : World) (ha : InsAt w w.heap.size A b.code.length b.code) :
    Calls Tryz.prog 27 #[b.v A c, .int .i64 f] w fun e w' => e = .returned (.bool (usesP b f)) ∧ Below w.heap.size w w' := by
  obtain ⟨n, hn⟩ : ∃ n, Hid (n = b.code.length) := ⟨_, rfl⟩
  obtain ⟨w1, hw1⟩ : ∃ X, Hid (X = w.alloc (.cells (bkC b A n c) 28)) := ⟨_, rfl⟩
  obtain ⟨p, hp⟩ : ∃ p, Hid (p = w.heap.size) := ⟨_, rfl⟩
  have HP := Lib.hid (show Blk w1 p 28 (bkC b A n c) by rw [hw1.out, hp.out]; exact Blk.new _ _ _)
  have HK := Lib.hid (show Below w.heap.size w w1 by rw [hw1.out]; exact bAlloc _ _)
  have hn3 : n ≤ 3000000000000 := by rw [hn.out]; exact ha.1.2
  have HA := Lib.hid (show InsAt w1 w1.heap.size A n b.code by rw [hn.out]; exact ha.next HK.out)
  clear ha
  unfold Bk.v
  rw [← hn.out]
  go_enter Tryz.func27, Tryz.ntmps27
  go_upto_region 1 with fail
  rw [← hw1.out, ← hp.out]
  clear hw1 hp
  have p8 := HP.out.cell 8
  have pl := HP.out.lt
  simp at p8
  go_wp2_with fail
  clear p8 pl
  go_loopw [10] (fun i wr => ∃ j : Nat, i = .int .i64 (j : Int) ∧ j ≤ n ∧ (b.code.take j).any (usesI · f) = false ∧ Hid (Below w1.heap.size w1 wr)) (fun i _ => n - (intOf i).toNat)
  case atStart => exact ⟨0, rfl, by omega, rfl, Lib.hid (Below.refl _ _)⟩
  case round =>
    obtain ⟨j, rfl, hj, hno, HB⟩ := hrel
    by_cases hlt : j < n
    · have hlj : decide ((j : Int) < (n : Int)) = true := decide_eq_true (by omega)
      obtain ⟨bk, off, x, hA, hb, hx, hc⟩ := (HA.out.next HB.out).at hlt
      subst hA
      obtain ⟨c0, c1, c2, c3, c4, c5⟩ := hc
      have HYES := Lib.hid (show usesI x f = true → usesP b f = true from fun h => by
        unfold usesP
        rw [Bool.or_eq_true, List.any_eq_true]
        exact .inl ⟨x, List.mem_of_getElem? hx, h⟩)
      have HNO := Lib.hid (show usesI x f = false → (b.code.take (j + 1)).any (usesI · f) = false from fun h => by
        rw [List.take_add_one, hx, List.any_append, hno]
        simp [h])
      clear hno hx
      go_upto_region 4 with fail
      obtain ⟨w2, hw2⟩ : ∃ X, Hid (X = wr.alloc (.cells #[.int .i64 x.op, .int .i64 x.r, .int .i64 x.a, .int .i64 x.n, .string x.nm, .int .i64 x.ar] 34)) := ⟨_, rfl⟩
      obtain ⟨q, hq⟩ : ∃ X, Hid (X = wr.heap.size) := ⟨_, rfl⟩
      rw [← hw2.out, ← hq.out]
      have HX := Lib.hid (show BoxI w2 q x by rw [hw2.out, hq.out]; exact BoxI.new _ _)
      have HBB := Lib.hid (show Below w1.heap.size w1 w2 by rw [hw2.out]; exact HB.out.alloc HB.out.size _)
      clear hw2 hq c0 c1 c2 c3 c4 c5 hlj
      obtain ⟨x0, x1, x2, x3, x4, x5⟩ := BoxI.cells HX.out
      obtain ⟨t1, h1⟩ : ∃ t, (x.r == f) = t := ⟨_, rfl⟩
      obtain ⟨t2, h2⟩ : ∃ t, (x.a == f) = t := ⟨_, rfl⟩
      obtain ⟨t3, h3⟩ : ∃ t, (x.op == 19) = t := ⟨_, rfl⟩
      obtain ⟨t4, h4⟩ : ∃ t, (x.op == 20) = t := ⟨_, rfl⟩
      obtain ⟨t5, h5⟩ : ∃ t, decide (f ≤ x.ar) = t := ⟨_, rfl⟩
      have HI := Lib.hid (show usesI x f = (t1 || (t2 || ((t3 || t4) && t5))) by unfold usesI; rw [h1, h2, h3, h4, h5])
      cases t1
      · cases t2
        · cases t3
          · cases t4
            · have HNX := Lib.hid (HNO.out (by rw [HI.out]; rfl))
              go_wp2_with fail
              exact ⟨⟨j + 1, by go_num, hlt, HNX.out, Lib.hid HBB.out⟩, by simp only [intOf]; omega⟩
            · cases t5
              · have HNX := Lib.hid (HNO.out (by rw [HI.out]; rfl))
                go_wp2_with fail
                exact ⟨⟨j + 1, by go_num, hlt, HNX.out, Lib.hid HBB.out⟩, by simp only [intOf]; omega⟩
              · go_wp2_with fail
                go_ret
                exact ⟨ret_bool (HYES.out (by rw [HI.out]; rfl)).symm, bNext HK.out HBB.out⟩
          · cases t5
            · have HNX := Lib.hid (HNO.out (by rw [HI.out]; rfl))
              go_wp2_with fail
              exact ⟨⟨j + 1, by go_num, hlt, HNX.out, Lib.hid HBB.out⟩, by simp only [intOf]; omega⟩
            · go_wp2_with fail
              go_ret
              exact ⟨ret_bool (HYES.out (by rw [HI.out]; rfl)).symm, bNext HK.out HBB.out⟩
        · go_wp2_with fail
          go_ret
          exact ⟨ret_bool (HYES.out (by rw [HI.out]; rfl)).symm, bNext HK.out HBB.out⟩
      · go_wp2_with fail
        go_ret
        exact ⟨ret_bool (HYES.out (by rw [HI.out]; rfl)).symm, bNext HK.out HBB.out⟩
    · have hlj : decide ((j : Int) < (n : Int)) = false := decide_eq_false (by omega)
      have HI := Lib.hid (show usesP b f = decide (f ≤ b.par) by
        unfold usesP
        rw [List.take_of_length_le (by rw [← hn.out]; omega)] at hno
        rw [hno, Bool.false_or])
      clear hno
      have p2 := (HP.out.next HB.out).cell 2
      have pl := (HP.out.next HB.out).lt
      simp at p2
      go_wp2_with fail
      go_ret
      exact ⟨ret_bool HI.out.symm, bNext HK.out HB.out⟩
theorem InsAt.pre {w : World} {B n k : Nat} {A : Option Addr} {l : List In} (h : InsAt w B A n l) (hk : k ≤ n) : InsAt w B A k (l.take k) := by
  refine ⟨⟨by rw [List.length_take, h.len]; omega, Nat.le_trans hk h.1.2⟩, fun h0 => ?_⟩
  obtain ⟨b, off, e, hb, hc⟩ := h.2 (by omega)
  refine ⟨b, off, e, hb, fun i x hx => hc i x ?_⟩
  rw [List.getElem?_take] at hx
  split at hx
  · exact hx
  · cases hx
theorem InsAt.suf {w : World} {B n k bk off : Nat} {l : List In} (h : InsAt w B (some ⟨bk, off, none⟩) n l) : InsAt w B (some ⟨bk, off + k * 6, none⟩) (n - k) (l.drop k) := by
  refine ⟨⟨by rw [List.length_drop, h.len], Nat.le_trans (Nat.sub_le _ _) h.1.2⟩, fun h0 => ?_⟩
  obtain ⟨b, o, e, hb, hc⟩ := h.2 (by omega)
  injection e with e
  injection e with e1 e2
  subst e1 e2
  refine ⟨bk, off + k * 6, rfl, hb, fun i x hx => ?_⟩
  rw [List.getElem?_drop] at hx
  have h := hc _ _ hx
  rw [show off + (k + i) * 6 = off + k * 6 + i * 6 by omega] at h
  exact h
theorem new_ins (w : World) (x : In) : InsAt (w.alloc (.cells #[.int .i64 x.op, .int .i64 x.r, .int .i64 x.a, .int .i64 x.n, .string x.nm, .int .i64 x.ar] 34)) (w.heap.size + 1) (some ⟨w.heap.size, 0, none⟩) 1 [x] := by
  refine ⟨⟨rfl, by omega⟩, fun _ => ⟨w.heap.size, 0, rfl, by omega, fun i y hy => ?_⟩⟩
  have h := BoxI.new w x
  match i, hy with
  | 0, hy => injection hy with hy; subst hy; exact ⟨Blk.cell h 0, Blk.cell h 1, Blk.cell h 2, Blk.cell h 3, Blk.cell h 4, Blk.cell h 5⟩
set_option maxRecDepth 100000 in
set_option maxHeartbeats 4000000 in
theorem insert_any (b : Bk) (bk off : Nat) (c k : Nat) (x : In) (w : World) (ha : InsAt w w.heap.size (some ⟨bk, off, none⟩) b.code.length b.code) (_hb : bk < w.heap.size) (hc : b.code.length ≤ c) (hz : b.code.length ≤ 131072) (hk : k < b.code.length) :
    Calls Tryz.prog 29 #[b.v (some ⟨bk, off, none⟩) c, .int .i64 (k : Int), x.v] w (CloR w { b with code := insL b.code k x }) := by
  obtain ⟨n, hn⟩ : ∃ n, Hid (n = b.code.length) := ⟨_, rfl⟩
  obtain ⟨w1, hw1⟩ : ∃ X, Hid (X = ((w.alloc (.cells (bkC b (some ⟨bk, off, none⟩) n c) 28)).alloc (.cells #[.int .i64 x.op, .int .i64 x.r, .int .i64 x.a, .int .i64 x.n, .string x.nm, .int .i64 x.ar] 34)).alloc (.cells (bkC zBk none 0 0) 28)) := ⟨_, rfl⟩
  obtain ⟨p, hp⟩ : ∃ p, Hid (p = w.heap.size) := ⟨_, rfl⟩
  obtain ⟨q, hq⟩ : ∃ p, Hid (p = w.heap.size + 1) := ⟨_, rfl⟩
  obtain ⟨r, hr⟩ : ∃ p, Hid (p = w.heap.size + 1 + 1) := ⟨_, rfl⟩
  have HP := Lib.hid (show Blk w1 p 28 (bkC b (some ⟨bk, off, none⟩) n c) by rw [hw1.out, hp.out]; exact ((Blk.new _ _ _).alloc _).alloc _)
  have HX := Lib.hid (show BoxI w1 q x by
    rw [hw1.out, hq.out]
    have h1 := Blk.alloc (BoxI.new (w.alloc (.cells (bkC b (some ⟨bk, off, none⟩) n c) 28)) x) (.cells (bkC zBk none 0 0) 28)
    rw [World.size_alloc] at h1
    exact h1)
  have HR := Lib.hid (show Blk w1 r 28 (bkC zBk none 0 0) by
    rw [hw1.out, hr.out]
    have h1 := Blk.new ((w.alloc (.cells (bkC b (some ⟨bk, off, none⟩) n c) 28)).alloc (.cells #[.int .i64 x.op, .int .i64 x.r, .int .i64 x.a, .int .i64 x.n, .string x.nm, .int .i64 x.ar] 34)) 28 (bkC zBk none 0 0)
    rw [World.size_alloc, World.size_alloc] at h1
    exact h1)
  have HK := Lib.hid (show Below w.heap.size w w1 by rw [hw1.out]; exact ((bAlloc _ _).alloc (by simp) _).alloc (by simp; omega) _)
  have HPL := Lib.hid (show w.heap.size ≤ p ∧ w.heap.size ≤ r by rw [hp.out, hr.out]; omega)
  have HA := Lib.hid (show InsAt w1 w1.heap.size (some ⟨bk, off, none⟩) b.code.length b.code from ha.next HK.out)
  have HKN := Lib.hid (show k < n ∧ n ≤ c ∧ n ≤ 131072 by rw [hn.out]; exact ⟨hk, hc, hz⟩)
  unfold Bk.v
  rw [← hn.out]
  clear ha hc hz hk
  go_enter Tryz.func29, Tryz.ntmps29
  go_upto_region 1 with fail
  rw [← hw1.out, ← hr.out, ← hq.out, ← hp.out]
  clear hw1 hr hq hp
  have hcl := clone_any b (some ⟨bk, off, none⟩) c w1 HA.out ⟨by have := HKN.out; have := hn.out; omega, fun h => by cases h⟩ (by have := HKN.out; have := hn.out; omega)
  unfold Bk.v at hcl
  rw [← hn.out] at hcl
  have HCL := Lib.hid hcl
  clear hcl
  have t0 := HP.out.cell 0
  have t1 := HP.out.cell 1
  have t2 := HP.out.cell 2
  have t3 := HP.out.cell 3
  have t4 := HP.out.cell 4
  have t5 := HP.out.cell 5
  have t6 := HP.out.cell 6
  have t7 := HP.out.cell 7
  have t8 := HP.out.cell 8
  have tl := HP.out.lt
  simp at t0 t1 t2 t3 t4 t5 t6 t7 t8
  go_wp2_with fail
  refine HCL.out.mono ?_
  rintro e w2 ⟨A2, c2, rfl, _, hb2⟩
  rw [show b.v A2 c2 = .agg (bkC b A2 n c2) by rw [hn.out]]
  have HB2 := Lib.hid (bNext HK.out hb2)
  have HP2 := Lib.hid (HP.out.next hb2)
  have HX2 := Lib.hid (BlkNext HX.out hb2)
  have HR2 := Lib.hid (HR.out.next hb2)
  have HA2 := Lib.hid (HA.out.next hb2)
  have HW12 := Lib.hid hb2.size
  clear hb2 t0 t1 t2 t3 t4 t5 t6 t7 t8 tl HCL HP HX HR HA
  go_upto_region 2 with fail
  obtain ⟨w3, hw3⟩ : ∃ X, Hid (X = (w2.alloc (.cells (bkC b A2 n c2) 28)).drew) := ⟨_, rfl⟩
  obtain ⟨s, hs⟩ : ∃ X, Hid (X = w2.heap.size) := ⟨_, rfl⟩
  obtain ⟨z, hz⟩ : ∃ X, Hid (X = w3.heap.size) := ⟨_, rfl⟩
  refine wp_region_N (fun w' => Below z w3 w') (fun k => k != 14) (by kernel_rfl) ?_
  rw [← hw3.out, ← hs.out]
  have hS0 : Below z w3 w3 := Below.refl _ _
  have HB23 := Lib.hid (show Below w2.heap.size w2 w3 by rw [hw3.out]; exact (bAlloc _ _).drew)
  have HP3 := Lib.hid (HP2.out.next HB23.out)
  have HX3 := Lib.hid (BlkNext HX2.out HB23.out)
  have HR3 := Lib.hid (HR2.out.next HB23.out)
  have HA3 := Lib.hid (HA2.out.next HB23.out)
  have HS3 := Lib.hid (show Blk w3 s 28 (bkC b A2 n c2) by rw [hw3.out, hs.out]; exact (Blk.new _ _ _).next (bDrew _))
  have HB3 := Lib.hid (bNext HB2.out HB23.out)
  have HSR := Lib.hid (show s ≠ r ∧ w.heap.size ≤ s by have h1 := HR2.out.lt; have h2 := HB2.out.size; rw [hs.out]; omega)
  clear hw3 hs HB23 HP2 HX2 HR2 HA2
  have hcap : ¬ c = k := by have := HKN.out; omega
  refine wpAnyN_take (i := 0) (v := .pointer (some ⟨p, 8, none⟩)) rfl (by kernel_rfl) (by kernel_rfl) (by kernel_rfl) (by kernel_rfl) (fun _ _ _ h => h) (Or.inl ⟨by kernel_rfl, ?hv0⟩) (by assumption) ?_
  case hv0 => intro w hSw; skip; go_simp; skip
  simp only [Act.put, List.getElem_toArray, List.getElem_cons_zero, List.setIfInBounds_toArray, List.set_cons_zero, List.set_cons_succ]
  refine wpAnyN_take (i := 1) (v := .slice (some ⟨bk, off, none⟩) n c) rfl (by kernel_rfl) (by kernel_rfl) (by kernel_rfl) (by kernel_rfl) (fun _ _ _ h => h) (Or.inl ⟨by kernel_rfl, ?hv1⟩) (by assumption) ?_
  case hv1 => intro w hSw; (have h9 : Below w3.heap.size w3 w := by rw [← hz.out];exact hSw);have g8 := (HP3.out.next h9).cell 8;simp at g8; go_simp; skip
  simp only [Act.put, List.getElem_toArray, List.getElem_cons_zero, List.getElem_cons_succ, List.setIfInBounds_toArray, List.set_cons_zero, List.set_cons_succ]
  refine wpAnyN_take (i := 2) (v := .int .i64 (k : Int)) rfl (by kernel_rfl) (by kernel_rfl) (by kernel_rfl) (by kernel_rfl) (fun _ _ _ h => h) (Or.inl ⟨by kernel_rfl, ?hv2⟩) (by assumption) ?_
  case hv2 => intro w hSw; skip; go_simp; skip
  simp only [Act.put, List.getElem_toArray, List.getElem_cons_zero, List.getElem_cons_succ, List.setIfInBounds_toArray, List.set_cons_zero, List.set_cons_succ]
  refine wpAnyN_take (i := 3) (v := .slice (some ⟨bk, off, none⟩) k c) rfl (by kernel_rfl) (by kernel_rfl) (by kernel_rfl) (by kernel_rfl) (fun _ _ _ h => h) (Or.inl ⟨by kernel_rfl, ?hv3⟩) (by assumption) ?_
  case hv3 => intro w hSw; skip; go_simp; have := HKN.out;omega
  simp only [Act.put, List.getElem_toArray, List.getElem_cons_zero, List.getElem_cons_succ, List.setIfInBounds_toArray, List.set_cons_zero, List.set_cons_succ]
  refine wpAnyN_take (i := 5) (v := x.v) rfl (by kernel_rfl) (by kernel_rfl) (by kernel_rfl) (by kernel_rfl) (fun _ _ _ h => h) (Or.inl ⟨by kernel_rfl, ?hv5⟩) (by assumption) ?_
  case hv5 =>
    intro w hSw
    have h9 : Below w3.heap.size w3 w := by rw [← hz.out]; exact hSw
    obtain ⟨x0, x1, x2, x3, x4, x5⟩ := BoxI.cells (BlkNext HX3.out h9)
    go_simp
  simp only [Act.put, List.getElem_toArray, List.getElem_cons_zero, List.getElem_cons_succ, List.setIfInBounds_toArray, List.set_cons_zero, List.set_cons_succ]
  refine wpAnyN_take (i := 8) (v := .pointer (some ⟨p, 8, none⟩)) rfl (by kernel_rfl) (by kernel_rfl) (by kernel_rfl) (by kernel_rfl) (fun _ _ _ h => h) (Or.inl ⟨by kernel_rfl, ?hv8⟩) (by assumption) ?_
  case hv8 => intro w hSw; skip; go_simp; skip
  simp only [Act.put, List.getElem_toArray, List.getElem_cons_zero, List.getElem_cons_succ, List.setIfInBounds_toArray, List.set_cons_zero, List.set_cons_succ]
  refine wpAnyN_take (i := 9) (v := .slice (some ⟨bk, off, none⟩) n c) rfl (by kernel_rfl) (by kernel_rfl) (by kernel_rfl) (by kernel_rfl) (fun _ _ _ h => h) (Or.inl ⟨by kernel_rfl, ?hv9⟩) (by assumption) ?_
  case hv9 => intro w hSw; (have h9 : Below w3.heap.size w3 w := by rw [← hz.out];exact hSw);have g8 := (HP3.out.next h9).cell 8;simp at g8; go_simp; skip
  simp only [Act.put, List.getElem_toArray, List.getElem_cons_zero, List.getElem_cons_succ, List.setIfInBounds_toArray, List.set_cons_zero, List.set_cons_succ]
  refine wpAnyN_take (i := 10) (v := .int .i64 (k : Int)) rfl (by kernel_rfl) (by kernel_rfl) (by kernel_rfl) (by kernel_rfl) (fun _ _ _ h => h) (Or.inl ⟨by kernel_rfl, ?hv10⟩) (by assumption) ?_
  case hv10 => intro w hSw; skip; go_simp; skip
  simp only [Act.put, List.getElem_toArray, List.getElem_cons_zero, List.getElem_cons_succ, List.setIfInBounds_toArray, List.set_cons_zero, List.set_cons_succ]
  refine wpAnyN_take (i := 11) (v := .slice (some ⟨bk, off + k * 6, none⟩) (n - k) (c - k)) rfl (by kernel_rfl) (by kernel_rfl) (by kernel_rfl) (by kernel_rfl) (fun _ _ _ h => h) (Or.inl ⟨by kernel_rfl, ?hv11⟩) (by assumption) ?_
  case hv11 => intro w hSw; skip; go_simp; intro h9;have := HKN.out;omega
  simp only [Act.put, List.getElem_toArray, List.getElem_cons_zero, List.getElem_cons_succ, List.setIfInBounds_toArray, List.set_cons_zero, List.set_cons_succ]
  have HL := Lib.hid (show (b.code.take k).length = k by rw [List.length_take]; have := HKN.out; have := hn.out; omega)
  have HZ0 := Lib.hid (Nat.le_of_eq hz.out)
  have HPRE := Lib.hid (show InsAt w3 w3.heap.size (some ⟨bk, off, none⟩) k (b.code.take k) from HA3.out.pre (by have := HKN.out; have := hn.out; omega))
  refine wpAnyN_pairV (i := 4) (j := 6) (fun vi vj w' => ∃ A1 c1 g, vi = .slice A1 k c1 ∧ vj = .slice (some ⟨g, 0, none⟩) 1 1 ∧ w'.ownsRow z 34 6 (.slice A1 k c1) k (aCs (b.code.take k)) ∧ InsAt w' w'.heap.size (some ⟨g, 0, none⟩) 1 [x] ∧ Below z w3 w') (by kernel_rfl) (by kernel_rfl) (by kernel_rfl) (by decide) rfl rfl (fun _ _ => by kernel_rfl) (fun vi vj w' ⟨_, _, _, _, _, _, _, h⟩ => h) ?ha ?hb ?hc
  case ha =>
    intro K hK
    simp only [List.getElem_toArray, List.getElem_cons_zero, List.getElem_cons_succ]
    rw [if_pos (by kernel_rfl)]
    refine wp_append_ins (.const (.slice none 0 0)) (.tmp 13) rfl z (.slice none 0 0) [] rfl (World.ownsRow_nil _ _ _ _) w3.heap.size (some ⟨bk, off, none⟩) k c (b.code.take k) rfl HPRE.out ⟨by have := HKN.out; omega, fun h => by cases h⟩ (by have := HKN.out; simp; omega) HZ0.out ?_
    intro v' w4 ho hg _
    rw [List.length_nil, Nat.zero_add, List.nil_append] at ho
    obtain ⟨A1, c1, rfl, -⟩ := own_form ho
    have HO4 := Lib.hid ho
    have HB4 := Lib.hid (show Below z w3 w4 from hS0.grown hg HZ0.out (fun g e => by simp [Value.ownBlock] at e))
    clear ho hg
    refine hK _ _ ⟨HB4.out, .slice A1 k c1, by kernel_rfl, fun K2 hK2 => ?_⟩
    clear hK
    simp only [Act.put, List.getElem_toArray, List.getElem_cons_zero, List.getElem_cons_succ, List.setIfInBounds_toArray, List.set_cons_zero, List.set_cons_succ]
    go_simp
    have hs4 : z ≤ w4.heap.size := Nat.le_trans HZ0.out HB4.out.size
    refine hK2 _ _ ⟨.slice (some ⟨w4.heap.size, 0, none⟩) 1 1, by kernel_rfl, A1, c1, w4.heap.size, rfl, rfl, own_next HO4.out (bAlloc _ _), ?_, HB4.out.alloc hs4 _⟩
    rw [World.size_alloc]
    exact new_ins w4 x
  case hb =>
    intro K hK
    simp only [List.getElem_toArray, List.getElem_cons_zero, List.getElem_cons_succ]
    go_simp
    have HB4 := Lib.hid (show Below z w3 (w3.alloc (.cells #[.int .i64 x.op, .int .i64 x.r, .int .i64 x.a, .int .i64 x.n, .string x.nm, .int .i64 x.ar] 34)) from hS0.alloc HZ0.out _)
    have HPR4 := Lib.hid (HPRE.out.next (bAlloc w3 (.cells #[.int .i64 x.op, .int .i64 x.r, .int .i64 x.a, .int .i64 x.n, .string x.nm, .int .i64 x.ar] 34)))
    have HNI := Lib.hid (new_ins w3 x)
    refine hK _ _ ⟨HB4.out, .slice (some ⟨w3.heap.size, 0, none⟩) 1 1, by kernel_rfl, fun K2 hK2 => ?_⟩
    clear hK
    simp only [Act.put, List.getElem_toArray, List.getElem_cons_zero, List.getElem_cons_succ, List.setIfInBounds_toArray, List.set_cons_zero, List.set_cons_succ]
    rw [if_pos (by kernel_rfl)]
    refine wp_append_ins (.const (.slice none 0 0)) (.tmp 13) rfl z (.slice none 0 0) [] rfl (World.ownsRow_nil _ _ _ _) _ (some ⟨bk, off, none⟩) k c (b.code.take k) rfl HPR4.out ⟨by have := HKN.out; omega, fun h => by cases h⟩ (by have := HKN.out; simp; omega) (by have := HZ0.out; simp; omega) ?_
    intro v' w4 ho hg _
    rw [List.length_nil, Nat.zero_add, List.nil_append] at ho
    obtain ⟨A1, c1, rfl, -⟩ := own_form ho
    have hB := HB4.out.grown hg (by have := HZ0.out; simp; omega) (fun g e => by simp [Value.ownBlock] at e)
    refine hK2 _ _ ⟨.slice A1 k c1, by kernel_rfl, A1, c1, w3.heap.size, rfl, rfl, ho, ?_, hB⟩
    have hgb : Below (w3.heap.size + 1) (w3.alloc (.cells #[.int .i64 x.op, .int .i64 x.r, .int .i64 x.a, .int .i64 x.n, .string x.nm, .int .i64 x.ar] 34)) w4 := ⟨hg.os, hg.tape, hg.output, hg.size, fun i hi => hg.block i (by simp; omega) (by simp [Value.ownBlock])⟩
    exact (HNI.out.below hgb).more (by have := hg.size; simp at this; omega)
  case hc =>
    rintro vi vj w4 ⟨A1, c1, g, rfl, rfl, ho, hi, hb4⟩
    have HO4 := Lib.hid ho
    have HI4 := Lib.hid hi
    have HB4 := Lib.hid hb4
    clear ho hi hb4 hS0
    simp only [Act.put, List.getElem_toArray, List.getElem_cons_zero, List.getElem_cons_succ, List.setIfInBounds_toArray, List.set_cons_zero, List.set_cons_succ]
    refine wpAnyN_one (i := 7) (by kernel_rfl) rfl (fun K hK => ?_)
    simp only [List.getElem_toArray, List.getElem_cons_zero, List.getElem_cons_succ]
    rw [if_pos (by kernel_rfl)]
    refine wp_append_ins (.tmp 14) (.tmp 16) rfl z (.slice A1 k c1) (b.code.take k) rfl (by rw [HL.out]; exact HO4.out) w4.heap.size (some ⟨g, 0, none⟩) 1 1 [x] rfl HI4.out ⟨Nat.le_refl _, fun h => by cases h⟩ (by rw [HL.out]; have := HKN.out; omega) (Nat.le_trans HZ0.out HB4.out.size) ?_
    intro v' w5 ho hg _
    rw [HL.out] at ho
    obtain ⟨A2', c2', rfl, -⟩ := own_form ho
    have HO5 := Lib.hid ho
    have HB5 := Lib.hid (show Below z w3 w5 from HB4.out.grown hg (Nat.le_trans HZ0.out HB4.out.size) (fun g e => (own_lt HO4.out e).1))
    clear ho hg
    refine hK _ _ (fun _ => HB5.out) ?_
    (try simp only [Act.put, List.setIfInBounds_toArray, List.set_cons_zero, List.set_cons_succ])
    clear hK
    have HSUF := Lib.hid (show InsAt w5 w5.heap.size (some ⟨bk, off + k * 6, none⟩) (b.code.length - k) (b.code.drop k) from (HA3.out.next (by rw [← hz.out]; exact HB5.out)).suf)
    rw [← hn.out] at HSUF
    refine wpAnyN_one (i := 12) (by kernel_rfl) rfl (fun K hK => ?_)
    simp only [List.getElem_toArray, List.getElem_cons_zero, List.getElem_cons_succ]
    rw [if_pos (by kernel_rfl)]
    refine wp_append_ins (.tmp 17) (.tmp 21) rfl z (.slice A2' (k + 1) c2') (b.code.take k ++ [x]) rfl (by rw [List.length_append, HL.out]; exact HO5.out) w5.heap.size (some ⟨bk, off + k * 6, none⟩) (n - k) (c - k) (b.code.drop k) rfl HSUF.out ⟨by have := HKN.out; omega, fun h => by cases h⟩ (by rw [List.length_append, HL.out]; have := HKN.out; simp; omega) (Nat.le_trans HZ0.out HB5.out.size) ?_
    intro v' w6 ho hg _
    rw [List.length_append, HL.out, show k + [x].length + (n - k) = n + 1 by have := HKN.out; simp; omega, List.append_assoc, show b.code.take k ++ ([x] ++ b.code.drop k) = insL b.code k x from rfl] at ho
    obtain ⟨A3, c3, rfl, -⟩ := own_form ho
    have HO6 := Lib.hid ho
    have HB6 := Lib.hid (show Below z w3 w6 from HB5.out.grown hg (Nat.le_trans HZ0.out HB5.out.size) (fun g e => (own_lt HO5.out e).1))
    clear ho hg
    refine hK _ _ (fun _ => HB6.out) ?_
    (try simp only [Act.put, List.setIfInBounds_toArray, List.set_cons_zero, List.set_cons_succ])
    clear hK
    have hS6 := HB6.out
    have HB6' := Lib.hid (show Below w3.heap.size w3 w6 by rw [← hz.out]; exact HB6.out)
    have HS6 := Lib.hid (HS3.out.next HB6'.out)
    have HR6 := Lib.hid (HR3.out.next HB6'.out)
    have HNS := Lib.hid (show ∀ g, (Value.slice A3 (n + 1) c3).ownBlock = some g → g ≠ s ∧ g ≠ r by
      intro g hg
      have h1 := (own_lt HO6.out hg).1
      have h2 := HS3.out.lt
      have h3 := HR3.out.lt
      have h4 := hz.out
      omega)
    refine wpAnyN_take (i := 13) (v := .pointer (some ⟨s, 8, none⟩)) rfl (by kernel_rfl) (by kernel_rfl) (by kernel_rfl) (by kernel_rfl) (fun _ _ _ h => h) (Or.inl ⟨by kernel_rfl, ?hv13⟩) (by assumption) ?_
    case hv13 => intro w hSw; skip; go_simp; skip
    simp only [Act.put, List.getElem_toArray, List.getElem_cons_zero, List.getElem_cons_succ, List.setIfInBounds_toArray, List.set_cons_zero, List.set_cons_succ]
    have t8 := HS6.out.cell 8
    have f8 := HS6.out.frozen 8
    have tl := HS6.out.lt
    simp at t8
    refine wpAnyN_one (i := 14) (by kernel_rfl) rfl (fun K hK => ?_)
    simp only [List.getElem_toArray, List.getElem_cons_zero, List.getElem_cons_succ]
    go_simp
    refine hK _ _ (fun h => absurd h (by decide)) ?_
    (try simp only [Act.put, List.setIfInBounds_toArray, List.set_cons_zero, List.set_cons_succ])
    clear hK
    refine wpAnyN_done (by kernel_rfl) ?_ _
    obtain ⟨w7, hw7⟩ : ∃ X, Hid (X = w6.setCell ⟨s, 8, none⟩ (.slice A3 (n + 1) c3)) := ⟨_, rfl⟩
    rw [← hw7.out]
    clear t8 f8 tl hcap
    have HS7 := Lib.hid (show Blk w7 s 28 (bkC b A3 (n + 1) c3) by rw [hw7.out]; exact HS6.out.set_ 8 _)
    have HR7 := Lib.hid (show Blk w7 r 28 (bkC zBk none 0 0) by rw [hw7.out]; exact HR6.out.far (fun e => HSR.out.1 e.symm) _)
    have HB7 := Lib.hid (show Below w.heap.size w w7 by rw [hw7.out]; exact (bNext HB3.out HB6'.out).setCell HSR.out.2 _)
    have HO7 := Lib.hid (show w7.ownsRow w.heap.size 34 6 (.slice A3 (n + 1) c3) (n + 1) (aCs (insL b.code k x)) by
      rw [hw7.out]
      exact ownsRow_setCell_other (own_base HO6.out (by have := hz.out; have := HB3.out.size; omega)) (fun e => (HNS.out _ e).1 rfl) _)
    clear hw7
    have t0 := HS7.out.cell 0
    have t1 := HS7.out.cell 1
    have t2 := HS7.out.cell 2
    have t3 := HS7.out.cell 3
    have t4 := HS7.out.cell 4
    have t5 := HS7.out.cell 5
    have t6 := HS7.out.cell 6
    have t7 := HS7.out.cell 7
    have t8 := HS7.out.cell 8
    have tl := HS7.out.lt
    simp at t0 t1 t2 t3 t4 t5 t6 t7 t8
    have s0 := HR7.out.cell 0
    have s1 := HR7.out.cell 1
    have s2 := HR7.out.cell 2
    have s3 := HR7.out.cell 3
    have s4 := HR7.out.cell 4
    have s5 := HR7.out.cell 5
    have s6 := HR7.out.cell 6
    have s7 := HR7.out.cell 7
    have s8 := HR7.out.cell 8
    have sl := HR7.out.lt
    simp at s0 s1 s2 s3 s4 s5 s6 s7 s8
    have f0 := HR7.out.frozen 0
    have f1 := HR7.out.frozen 1
    have f2 := HR7.out.frozen 2
    have f3 := HR7.out.frozen 3
    have f4 := HR7.out.frozen 4
    have f5 := HR7.out.frozen 5
    have f6 := HR7.out.frozen 6
    have f7 := HR7.out.frozen 7
    have f8 := HR7.out.frozen 8
    go_wp2_with fail
    obtain ⟨w8, hw8⟩ : ∃ X, Hid (X = setB w7 r b A3 (n + 1) c3) := ⟨_, rfl⟩
    change bodyPost _ _ _ _ _ (setB w7 r b A3 (n + 1) c3)
    rw [← hw8.out]
    clear t0 t1 t2 t3 t4 t5 t6 t7 t8 tl s0 s1 s2 s3 s4 s5 s6 s7 s8 sl f0 f1 f2 f3 f4 f5 f6 f7 f8
    have HR8 := Lib.hid (show Blk w8 r 28 (bkC b A3 (n + 1) c3) by rw [hw8.out]; exact setB_same HR7.out rfl _ _ _ _)
    have HB8 := Lib.hid (show Below w.heap.size w w8 by rw [hw8.out]; exact setB_below HB7.out HPL.out.2 _ _ _ _)
    have HO8 := Lib.hid (show w8.ownsRow w.heap.size 34 6 (.slice A3 (n + 1) c3) (n + 1) (aCs (insL b.code k x)) by rw [hw8.out]; exact setB_own HO7.out (fun g hg => (HNS.out g hg).2) _ _ _ _)
    have HIL := Lib.hid (show n + 1 = (insL b.code k x).length by rw [insL_len, hn.out])
    clear hw8
    have t0 := HR8.out.cell 0
    have t1 := HR8.out.cell 1
    have t2 := HR8.out.cell 2
    have t3 := HR8.out.cell 3
    have t4 := HR8.out.cell 4
    have t5 := HR8.out.cell 5
    have t6 := HR8.out.cell 6
    have t7 := HR8.out.cell 7
    have t8 := HR8.out.cell 8
    have tl := HR8.out.lt
    simp at t0 t1 t2 t3 t4 t5 t6 t7 t8
    refine bodyPost_ret (v := .agg (bkC b A3 (n + 1) c3)) (by simp only [results, Tryz.results29]; go_simp) rfl ?_
    exact ⟨A3, c3, by rw [HIL.out], by show w8.ownsRow w.heap.size 34 6 (.slice A3 (insL b.code k x).length c3) (insL b.code k x).length (aCs (insL b.code k x)); rw [← HIL.out]; exact HO8.out, HB8.out⟩
end Go.Proofs.YtbipeakinmbdiaaGreatDoor
