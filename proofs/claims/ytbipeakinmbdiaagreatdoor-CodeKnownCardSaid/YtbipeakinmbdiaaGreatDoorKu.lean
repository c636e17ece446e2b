/-
  Walks: the blocks of the examples. Walks: are lists of instructions equal? Walk: are blocks equal? (code) Plain: the examples of the chapter. Walk: are blocks equal? (the reference) Walk: are lists of numbers equal? Memory: a row of one's own of which a cell is written.
-/
import Derived.Test.YtbipeakinmbdiaaGreatDoorKt
import Derived.Test.YtbipeakinmbdiaaGreatDoorKg
import Derived.Test.YtbipeakinmbdiaaGreatDoorKa
namespace Go.Proofs.YtbipeakinmbdiaaGreatDoor
section
open Go.RowKit

/-- a block with a row of its own -/
def BlkR (w : World) (b : Bk) (e : Ending) (w' : World) : Prop := ∃ A c, e = .returned (b.v A c) ∧ w'.ownsRow w.heap.size 34 6 (.slice A b.code.length c) b.code.length (aCs b.code) ∧ Below w.heap.size w w'
def factB : Bk := ⟨1, ⟨#[112]⟩, 1, 0, 2, 0, ⟨#[97]⟩, 0, [⟨4, 0, 1, 0, ⟨#[97]⟩, 0⟩, ⟨21, 0, 0, 0, ⟨#[]⟩, 0⟩]⟩
def ruleB : Bk := ⟨2, ⟨#[112]⟩, 1, 0, 0, 0, ⟨#[]⟩, 0, [⟨16, 0, 0, 1, ⟨#[]⟩, 0⟩, ⟨1, -1, 1, 0, ⟨#[]⟩, 0⟩, ⟨19, 0, 0, 0, ⟨#[113]⟩, 1⟩, ⟨12, -1, 1, 0, ⟨#[]⟩, 0⟩, ⟨18, 0, 0, 0, ⟨#[]⟩, 0⟩, ⟨20, 0, 0, 0, ⟨#[114]⟩, 1⟩]⟩
set_option maxRecDepth 100000 in
set_option maxHeartbeats 4000000 in
theorem fact_any (w : World) : Calls Tryz.prog 30 #[] w (BlkR w factB) := by
  go_enter Tryz.func30, Tryz.ntmps30
  go_wp2_with fail
  show bodyPost Tryz.prog Tryz.f30 (BlkR w factB) Exit.ret _ ((w.alloc (.cells (bkC factB (some ⟨w.heap.size + 1, 0, none⟩) 2 2) 28)).alloc (.cells (aCs factB.code).toArray 34))
  obtain ⟨wz, hwz⟩ : ∃ X, Hid (X = (w.alloc (.cells (bkC factB (some ⟨w.heap.size + 1, 0, none⟩) 2 2) 28)).alloc (.cells (aCs factB.code).toArray 34)) := ⟨_, rfl⟩
  have HO := Lib.hid (show wz.ownsRow w.heap.size 34 6 (.slice (some ⟨w.heap.size + 1, 0, none⟩) 2 2) 2 (aCs factB.code) by
    have h := World.ownsRow_lit (base := w.heap.size) (e := 34) (size := 6) (w.alloc (.cells (bkC factB (some ⟨w.heap.size + 1, 0, none⟩) 2 2) 28)) (aCs factB.code).toArray 2 (by simp) (by unfold maxLen; omega) rfl
    rw [World.size_alloc] at h
    rw [hwz.out]
    exact h)
  have HB := Lib.hid (show Blk wz w.heap.size 28 (bkC factB (some ⟨w.heap.size + 1, 0, none⟩) 2 2) by rw [hwz.out]; exact (Blk.new _ _ _).alloc _)
  have HK := Lib.hid (show Below w.heap.size w wz by rw [hwz.out]; exact (bAlloc _ _).alloc (by simp) _)
  rw [← hwz.out]
  clear hwz
  have b0 := HB.out.cell 0
  have b1 := HB.out.cell 1
  have b2 := HB.out.cell 2
  have b3 := HB.out.cell 3
  have b4 := HB.out.cell 4
  have b5 := HB.out.cell 5
  have b6 := HB.out.cell 6
  have b7 := HB.out.cell 7
  have b8 := HB.out.cell 8
  simp at b0 b1 b2 b3 b4 b5 b6 b7 b8
  refine bodyPost_ret (v := .agg (bkC factB (some ⟨w.heap.size + 1, 0, none⟩) 2 2)) (by simp only [results, Tryz.results30]; go_simp) rfl ?_
  exact ⟨_, 2, rfl, HO.out, HK.out⟩
set_option maxRecDepth 100000 in
set_option maxHeartbeats 4000000 in
theorem rule_any (w : World) : Calls Tryz.prog 16 #[] w (BlkR w ruleB) := by
  go_enter Tryz.func16, Tryz.ntmps16
  go_wp2_with fail
  show bodyPost Tryz.prog Tryz.f16 (BlkR w ruleB) Exit.ret _ ((w.alloc (.cells (bkC ruleB (some ⟨w.heap.size + 1, 0, none⟩) 6 6) 28)).alloc (.cells (aCs ruleB.code).toArray 34))
  obtain ⟨wz, hwz⟩ : ∃ X, Hid (X = (w.alloc (.cells (bkC ruleB (some ⟨w.heap.size + 1, 0, none⟩) 6 6) 28)).alloc (.cells (aCs ruleB.code).toArray 34)) := ⟨_, rfl⟩
  have HO := Lib.hid (show wz.ownsRow w.heap.size 34 6 (.slice (some ⟨w.heap.size + 1, 0, none⟩) 6 6) 6 (aCs ruleB.code) by
    have h := World.ownsRow_lit (base := w.heap.size) (e := 34) (size := 6) (w.alloc (.cells (bkC ruleB (some ⟨w.heap.size + 1, 0, none⟩) 6 6) 28)) (aCs ruleB.code).toArray 6 (by simp) (by unfold maxLen; omega) rfl
    rw [World.size_alloc] at h
    rw [hwz.out]
    exact h)
  have HB := Lib.hid (show Blk wz w.heap.size 28 (bkC ruleB (some ⟨w.heap.size + 1, 0, none⟩) 6 6) by rw [hwz.out]; exact (Blk.new _ _ _).alloc _)
  have HK := Lib.hid (show Below w.heap.size w wz by rw [hwz.out]; exact (bAlloc _ _).alloc (by simp) _)
  rw [← hwz.out]
  clear hwz
  have b0 := HB.out.cell 0
  have b1 := HB.out.cell 1
  have b2 := HB.out.cell 2
  have b3 := HB.out.cell 3
  have b4 := HB.out.cell 4
  have b5 := HB.out.cell 5
  have b6 := HB.out.cell 6
  have b7 := HB.out.cell 7
  have b8 := HB.out.cell 8
  simp at b0 b1 b2 b3 b4 b5 b6 b7 b8
  refine bodyPost_ret (v := .agg (bkC ruleB (some ⟨w.heap.size + 1, 0, none⟩) 6 6)) (by simp only [results, Tryz.results16]; go_simp) rfl ?_
  exact ⟨_, 6, rfl, HO.out, HK.out⟩
end
section
open Go.RowKit

deriving instance DecidableEq for In
theorem neq_prop {x y : In} (h : x ≠ y) : x.op = y.op → x.r = y.r → x.a = y.a → x.n = y.n → x.nm.toList = y.nm.toList → ¬x.ar = y.ar := by
  intro h1 h2 h3 h4 h5 h6
  refine h ?_
  obtain ⟨x1, x2, x3, x4, x5, x6⟩ := x
  obtain ⟨y1, y2, y3, y4, y5, y6⟩ := y
  simp only at h1 h2 h3 h4 h5 h6
  have h7 : x5 = y5 := by
    rw [ByteArray.toList_eq, ByteArray.toList_eq] at h5
    rw [← S_eta x5, h5]
    exact S_eta y5
  rw [h1, h2, h3, h4, h6, h7]
set_option maxRecDepth 100000 in
set_option maxHeartbeats 1000000 in
theorem equal_any (A B : Option Addr) (n m c d : Nat) (l k : List In) (w : World) (ha : InsAt w w.heap.size A n l) (hb : InsAt w w.heap.size B m k) :
    Calls Tryz.prog 31 #[.slice A n c, .slice B m d] w fun e w' => e = .returned (.bool (decide (l = k))) ∧ Below w.heap.size w w' := by
  have HA := Lib.hid ha
  have HB := Lib.hid hb
  have hln := ha.len
  have hlm := hb.len
  have HLN := Lib.hid hln
  have HLM := Lib.hid hlm
  have HN := Lib.hid ha.1.2
  have hnn : n ≤ 3000000000000 := HN.out
  clear ha hb hln hlm
  obtain ⟨z, hz⟩ : ∃ z, Hid (z = decide (l = k)) := ⟨_, rfl⟩
  rw [← hz.out]
  go_enter Tryz.func31, Tryz.ntmps31
  by_cases hnm : n = m
  · subst hnm
    go_wp2_with fail
    go_loopw [13] (fun i wr => ∃ j : Nat, i = .int .i64 j ∧ j ≤ n ∧ Hid (Below w.heap.size w wr) ∧ Hid (l.take j = k.take j)) (fun i _ => n - (intOf i).toNat)
    case atStart => exact ⟨0, rfl, Nat.zero_le _, Lib.hid (Below.refl _ _), Lib.hid rfl⟩
    case round =>
      obtain ⟨j, rfl, hj, HR, HT⟩ := hrel
      by_cases hlt : j < n
      · obtain ⟨b, off, x, rfl, hbb, hx, hcs⟩ := HA.out.at hlt
        obtain ⟨b', off', y, rfl, hbb', hy, hcs'⟩ := HB.out.at hlt
        have HX := Lib.hid hx
        have HY := Lib.hid hy
        obtain ⟨q0, q1, q2, q3, q4, q5⟩ := hcs.below hbb HR.out
        obtain ⟨r0, r1, r2, r3, r4, r5⟩ := hcs'.below hbb' HR.out
        clear hx hy hcs hcs'
        by_cases hxy : x = y
        · subst hxy
          have HT2 := Lib.hid (show l.take (j + 1) = k.take (j + 1) by rw [List.take_add_one, List.take_add_one, HT.out, HX.out, HY.out])
          go_wp2_with fail
          go_quiet (fail)
          rename_i nq
          go_wp2_with fail
          exact ⟨⟨j + 1, by go_num, by omega, Lib.hid (bDrewN HR.out nq), HT2⟩, by simp [intOf]; omega⟩
        · have HXY := Lib.hid hxy
          have HZ := Lib.hid (show z = false by
            rw [hz.out]
            refine decide_eq_false fun e => HXY.out ?_
            have h1 := HX.out
            rw [e, HY.out] at h1
            injection h1 with h1
            exact h1.symm)
          have HXX := Lib.hid (neq_prop hxy)
          clear hxy
          have hbz : b < wr.heap.size := by have := HR.out.size; omega
          have hbz' : b' < wr.heap.size := by have := HR.out.size; omega
          go_upto_region 6 with fail
          obtain ⟨D, hD⟩ : ∃ X, Hid (X = wr.drew) := ⟨_, rfl⟩
          have hd : Below wr.heap.size wr D := by rw [hD.out]; exact bDrewN (Below.refl _ _) 1
          refine wp_region_N (fun w' => Below wr.heap.size wr w') (fun _ => true) (by kernel_rfl) ?_
          rw [← hD.out]
          clear hD
          have hS0 := hd
          refine wpAnyN_take (i := 0) (v := ?v1) rfl (by kernel_rfl) (by kernel_rfl) (by kernel_rfl) (by kernel_rfl) (fun _ _ _ h => h) (Or.inl ⟨by rfl, ?hy1⟩) (by assumption) ?_
          case hy1 => intro w hSw; (try dsimp only at hSw); go_simp; try with_reducible rfl
          simp only [Act.put, List.getElem_toArray, List.getElem_cons_zero, List.setIfInBounds_toArray, List.set_cons_zero, List.set_cons_succ]
          refine wpAnyN_take (i := 1) (v := ?v2) rfl (by kernel_rfl) (by kernel_rfl) (by kernel_rfl) (by kernel_rfl) (fun _ _ _ h => h) (Or.inl ⟨by rfl, ?hy2⟩) (by assumption) ?_
          case hy2 => intro w hSw; (try dsimp only at hSw); go_simp; try with_reducible rfl
          simp only [Act.put, List.getElem_toArray, List.getElem_cons_zero, List.getElem_cons_succ, List.setIfInBounds_toArray, List.set_cons_zero, List.set_cons_succ]
          refine wpAnyN_take (i := 2) (v := ?v3) rfl (by kernel_rfl) (by kernel_rfl) (by kernel_rfl) (by kernel_rfl) (fun _ _ _ h => h) (Or.inl ⟨by rfl, ?hy3⟩) (by assumption) ?_
          case hy3 => intro w hSw; (try dsimp only at hSw); go_simp; try with_reducible rfl
          simp only [Act.put, List.getElem_toArray, List.getElem_cons_zero, List.getElem_cons_succ, List.setIfInBounds_toArray, List.set_cons_zero, List.set_cons_succ]
          refine wpAnyN_take (i := 3) (v := ?v4) rfl (by kernel_rfl) (by kernel_rfl) (by kernel_rfl) (by kernel_rfl) (fun _ _ _ h => h) (Or.inl ⟨by rfl, ?hy4⟩) (by assumption) ?_
          case hy4 => intro w hSw; have e0 := (hSw.cell (p := ⟨b, _, none⟩) hbz).trans q0; have e1 := (hSw.cell (p := ⟨b, _, none⟩) hbz).trans q1; have e2 := (hSw.cell (p := ⟨b, _, none⟩) hbz).trans q2; have e3 := (hSw.cell (p := ⟨b, _, none⟩) hbz).trans q3; have e4 := (hSw.cell (p := ⟨b, _, none⟩) hbz).trans q4; have e5 := (hSw.cell (p := ⟨b, _, none⟩) hbz).trans q5; go_simp; try with_reducible rfl
          simp only [Act.put, List.getElem_toArray, List.getElem_cons_zero, List.getElem_cons_succ, List.setIfInBounds_toArray, List.set_cons_zero, List.set_cons_succ]
          refine wpAnyN_take (i := 4) (v := ?v5) rfl (by kernel_rfl) (by kernel_rfl) (by kernel_rfl) (by kernel_rfl) (fun _ _ _ h => h) (Or.inl ⟨by rfl, ?hy5⟩) (by assumption) ?_
          case hy5 => intro w hSw; (try dsimp only at hSw); go_simp; try with_reducible rfl
          simp only [Act.put, List.getElem_toArray, List.getElem_cons_zero, List.getElem_cons_succ, List.setIfInBounds_toArray, List.set_cons_zero, List.set_cons_succ]
          refine wpAnyN_take (i := 5) (v := ?v6) rfl (by kernel_rfl) (by kernel_rfl) (by kernel_rfl) (by kernel_rfl) (fun _ _ _ h => h) (Or.inl ⟨by rfl, ?hy6⟩) (by assumption) ?_
          case hy6 => intro w hSw; (try dsimp only at hSw); go_simp; try with_reducible rfl
          simp only [Act.put, List.getElem_toArray, List.getElem_cons_zero, List.getElem_cons_succ, List.setIfInBounds_toArray, List.set_cons_zero, List.set_cons_succ]
          refine wpAnyN_take (i := 6) (v := ?v7) rfl (by kernel_rfl) (by kernel_rfl) (by kernel_rfl) (by kernel_rfl) (fun _ _ _ h => h) (Or.inl ⟨by rfl, ?hy7⟩) (by assumption) ?_
          case hy7 => intro w hSw; (try dsimp only at hSw); go_simp; try with_reducible rfl
          simp only [Act.put, List.getElem_toArray, List.getElem_cons_zero, List.getElem_cons_succ, List.setIfInBounds_toArray, List.set_cons_zero, List.set_cons_succ]
          refine wpAnyN_take (i := 7) (v := ?v8) rfl (by kernel_rfl) (by kernel_rfl) (by kernel_rfl) (by kernel_rfl) (fun _ _ _ h => h) (Or.inl ⟨by rfl, ?hy8⟩) (by assumption) ?_
          case hy8 => intro w hSw; have e0 := (hSw.cell (p := ⟨b', _, none⟩) hbz').trans r0; have e1 := (hSw.cell (p := ⟨b', _, none⟩) hbz').trans r1; have e2 := (hSw.cell (p := ⟨b', _, none⟩) hbz').trans r2; have e3 := (hSw.cell (p := ⟨b', _, none⟩) hbz').trans r3; have e4 := (hSw.cell (p := ⟨b', _, none⟩) hbz').trans r4; have e5 := (hSw.cell (p := ⟨b', _, none⟩) hbz').trans r5; go_simp; try with_reducible rfl
          simp only [Act.put, List.getElem_toArray, List.getElem_cons_zero, List.getElem_cons_succ, List.setIfInBounds_toArray, List.set_cons_zero, List.set_cons_succ]
          refine wpAnyN_take (i := 8) (v := .bool true) rfl (by kernel_rfl) (by kernel_rfl) (by kernel_rfl) (by kernel_rfl) (fun _ _ _ h => h) (Or.inl ⟨by rfl, ?hv8⟩) (by assumption) ?_
          case hv8 => intro w' hSw; go_simp; exact HXX.out
          (try simp only [Act.put, List.setIfInBounds_toArray])
          refine wpAnyN_done (by kernel_rfl) ?_ _
          go_wp2_with fail
          go_ret
          exact ⟨ret_bool HZ.out.symm, HR.out.trans (hd.mono HR.out.size)⟩
      · have HZ := Lib.hid (show z = true by
          rw [hz.out]
          refine decide_eq_true ?_
          have h1 := HT.out
          rw [List.take_of_length_le (by have := HLN.out; omega), List.take_of_length_le (by have := HLM.out; omega)] at h1
          exact h1)
        go_wp2_with fail
        go_ret
        exact ⟨ret_bool HZ.out.symm, HR.out⟩
  · have HZ := Lib.hid (show z = false by
      rw [hz.out]
      refine decide_eq_false fun e => hnm ?_
      rw [← HLN.out, ← HLM.out, e])
    have q1 : ((n : Int) == (m : Int)) = false := by simp; omega
    have q2 : decide ((n : Int) = (m : Int)) = false := by simp; omega
    clear hnm
    go_wp2_with fail
    go_ret
    exact ⟨ret_bool HZ.out.symm, Below.refl _ _⟩
end
section
open Go.RowKit

deriving instance DecidableEq for Bk
/-- are the heads equal? -/
def hdEq (b d : Bk) : Bool := b.id == d.id && (b.pn.toList == d.pn.toList && (b.par == d.par && b.paux == d.paux) && (b.kk == d.kk && (b.kn == d.kn && (b.knm.toList == d.knm.toList && b.kar == d.kar))))
theorem bk_eq (b d : Bk) : decide (b = d) = (hdEq b d && decide (b.code = d.code)) := by
  rw [Bool.eq_iff_iff]
  obtain ⟨b1, b2, b3, b4, b5, b6, b7, b8, b9⟩ := b
  obtain ⟨d1, d2, d3, d4, d5, d6, d7, d8, d9⟩ := d
  have hs : ∀ x y : ByteArray, x.toList = y.toList ↔ x = y := fun x y => ⟨fun h => by
    rw [ByteArray.toList_eq, ByteArray.toList_eq] at h
    rw [← S_eta x, h]
    exact S_eta y, fun h => by rw [h]⟩
  simp only [hdEq, Bool.and_eq_true, beq_iff_eq, decide_eq_true_eq, hs, Bk.mk.injEq]
  constructor
  · rintro ⟨h1, h2, h3, h4, h5, h6, h7, h8, h9⟩; exact ⟨⟨h1, ⟨h2, h3, h4⟩, h5, h6, h7, h8⟩, h9⟩
  · rintro ⟨⟨h1, ⟨h2, h3, h4⟩, h5, h6, h7, h8⟩, h9⟩; exact ⟨h1, h2, h3, h4, h5, h6, h7, h8, h9⟩
set_option maxRecDepth 100000 in
set_option maxHeartbeats 2000000 in
theorem same_any (b d : Bk) (A A' : Option Addr) (c c' : Nat) (w : World) (ha : InsAt w w.heap.size A b.code.length b.code) (hb : InsAt w w.heap.size A' d.code.length d.code) :
    Calls Tryz.prog 14 #[b.v A c, d.v A' c'] w fun e w' => e = .returned (.bool (decide (b = d))) ∧ Below w.heap.size w w' := by
  obtain ⟨n, hn⟩ : ∃ n, Hid (n = b.code.length) := ⟨_, rfl⟩
  obtain ⟨m, hm⟩ : ∃ n, Hid (n = d.code.length) := ⟨_, rfl⟩
  unfold Bk.v
  rw [← hn.out] at ha ⊢
  rw [← hm.out] at hb ⊢
  obtain ⟨W, HW⟩ : ∃ X, Hid (X = (w.alloc (.cells (bkC b A n c) 28)).alloc (.cells (bkC d A' m c') 28)) := ⟨_, rfl⟩
  obtain ⟨p, hp⟩ : ∃ q, Hid (q = w.heap.size) := ⟨_, rfl⟩
  obtain ⟨q, hq⟩ : ∃ q, Hid (q = w.heap.size + 1) := ⟨_, rfl⟩
  have HB := Lib.hid (show Blk W p 28 (bkC b A n c) by rw [HW.out, hp.out]; exact (Blk.new _ _ _).alloc _)
  have HD := Lib.hid (show Blk W q 28 (bkC d A' m c') by
    have h := Blk.new (w.alloc (.cells (bkC b A n c) 28)) 28 (bkC d A' m c')
    rw [World.size_alloc] at h
    rw [HW.out, hq.out]; exact h)
  have HK := Lib.hid (show Below w.heap.size w W by rw [HW.out]; exact (bAlloc _ _).alloc (by simp) _)
  have HA := Lib.hid (InsAt.next ha HK.out)
  have HA' := Lib.hid (InsAt.next hb HK.out)
  obtain ⟨z, hz⟩ : ∃ z, Hid (z = decide (b = d)) := ⟨_, rfl⟩
  rw [← hz.out]
  have HZ := Lib.hid (show z = (hdEq b d && decide (b.code = d.code)) by rw [hz.out, bk_eq])
  clear ha hb hz
  go_enter Tryz.func14, Tryz.ntmps14
  go_upto_region 1 with fail
  rw [← HW.out, ← hq.out, ← hp.out]
  clear HW hp hq
  have b0 := HB.out.cell 0
  have b1 := HB.out.cell 1
  have b2 := HB.out.cell 2
  have b3 := HB.out.cell 3
  have b4 := HB.out.cell 4
  have b5 := HB.out.cell 5
  have b6 := HB.out.cell 6
  have b7 := HB.out.cell 7
  have b8 := HB.out.cell 8
  have bl := HB.out.lt
  have d0 := HD.out.cell 0
  have d1 := HD.out.cell 1
  have d2 := HD.out.cell 2
  have d3 := HD.out.cell 3
  have d4 := HD.out.cell 4
  have d5 := HD.out.cell 5
  have d6 := HD.out.cell 6
  have d7 := HD.out.cell 7
  have d8 := HD.out.cell 8
  have dl := HD.out.lt
  simp at b0 b1 b2 b3 b4 b5 b6 b7 b8 d0 d1 d2 d3 d4 d5 d6 d7 d8
  go_wp2_with fail
  · have hh : hdEq b d = true := by
      unfold hdEq
      simp only [Bool.and_eq_true, beq_iff_eq]
      exact ⟨by assumption, ⟨by assumption, by assumption, by assumption⟩, by assumption, by assumption, by assumption, by assumption⟩
    have HZ2 := Lib.hid (show z = decide (b.code = d.code) by rw [HZ.out, hh]; rfl)
    clear hh
    refine (equal_any A A' n m c c' b.code d.code W HA.out HA'.out).mono ?_
    rintro e w1 ⟨rfl, hb⟩
    have HB1 := Lib.hid (bNext HK.out hb)
    clear hb
    obtain ⟨y, hy⟩ : ∃ y, Hid (y = decide (b.code = d.code)) := ⟨_, rfl⟩
    rw [← hy.out]
    go_wp2_with fail
    go_ret
    exact ⟨ret_bool (by rw [HZ2.out, hy.out]), HB1.out⟩
  all_goals
    have hh : hdEq b d = false := by
      rw [Bool.eq_false_iff]
      intro e
      simp only [hdEq, Bool.and_eq_true, beq_iff_eq] at e
      obtain ⟨e1, ⟨e2, e3, e4⟩, e5, e6, e7, e8⟩ := e
      contradiction
    have HZ2 := Lib.hid (show z = false by rw [HZ.out, hh]; rfl)
    clear hh
    go_ret
    exact ⟨ret_bool HZ2.out.symm, HK.out⟩
end
section
open Go.RowKit

/-- the listing of the first example -/
def factT : List UInt8 := [98, 108, 111, 99, 107, 32, 49, 32, 34, 112, 34, 47, 49, 32, 34, 97, 34, 10, 103, 101, 116, 95, 97, 116, 111, 109, 32, 88, 49, 32, 34, 97, 34, 10, 112, 114, 111, 99, 101, 101, 100, 10]
/-- the second example with a wrong register -/
def wrongB : Bk := { ruleB with code := [⟨16, 0, 0, 1, ⟨#[]⟩, 0⟩, ⟨1, -1, 1, 0, ⟨#[]⟩, 0⟩, ⟨19, 0, 0, 0, ⟨#[113]⟩, 1⟩, ⟨12, 2, 1, 0, ⟨#[]⟩, 0⟩, ⟨18, 0, 0, 0, ⟨#[]⟩, 0⟩, ⟨20, 0, 0, 0, ⟨#[114]⟩, 1⟩] }
set_option maxRecDepth 100000 in
theorem va_fact : vaP factB = true := by decide +kernel
set_option maxRecDepth 100000 in
theorem va_rule : vaP ruleB = true := by decide +kernel
set_option maxRecDepth 100000 in
theorem va_wrong : vaP wrongB = false := by decide +kernel
theorem text_fact : textL factB = factT := by decide +kernel
theorem rg_fact : RgB factB := ⟨by unfold inR factB; decide, fun x hx => by
  simp only [factB, List.mem_cons, List.not_mem_nil, or_false] at hx
  rcases hx with rfl | rfl <;> (unfold inR; decide)⟩
theorem textV_fact : textV factB = (factT, 0) := by
  rw [textV_ok va_fact, text_fact, if_neg (by decide)]
theorem parse_fact : parseV factT = (factB, 0, 0) := by
  rw [← text_fact]
  exact parse_text va_fact rg_fact (by rw [text_fact]; decide)
/-- a call without its predicate -/
def callT : List UInt8 := [98, 108, 111, 99, 107, 32, 49, 32, 34, 112, 34, 47, 48, 32, 95, 10, 99, 97, 108, 108, 10]
set_option maxRecDepth 100000 in
theorem parse_call : parseV callT = (zBk, 2, 3) := by decide +kernel
end
section
open Go.RowKit

set_option maxRecDepth 100000 in
set_option maxHeartbeats 2000000 in
theorem Same_any (b d : Bk) (A A' : Option Addr) (c c' : Nat) (w : World) (ha : InsAt w w.heap.size A b.code.length b.code) (hb : InsAt w w.heap.size A' d.code.length d.code) :
    Calls Tryz.prog 19 #[b.v A c, d.v A' c'] w fun e w' => e = .returned (.bool (decide (b = d))) ∧ Below w.heap.size w w' := by
  obtain ⟨n, hn⟩ : ∃ n, Hid (n = b.code.length) := ⟨_, rfl⟩
  obtain ⟨m, hm⟩ : ∃ n, Hid (n = d.code.length) := ⟨_, rfl⟩
  unfold Bk.v
  rw [← hn.out] at ha ⊢
  rw [← hm.out] at hb ⊢
  obtain ⟨W, HW⟩ : ∃ X, Hid (X = (w.alloc (.cells (bkC b A n c) 28)).alloc (.cells (bkC d A' m c') 28)) := ⟨_, rfl⟩
  obtain ⟨p, hp⟩ : ∃ q, Hid (q = w.heap.size) := ⟨_, rfl⟩
  obtain ⟨q, hq⟩ : ∃ q, Hid (q = w.heap.size + 1) := ⟨_, rfl⟩
  have HB := Lib.hid (show Blk W p 28 (bkC b A n c) by rw [HW.out, hp.out]; exact (Blk.new _ _ _).alloc _)
  have HD := Lib.hid (show Blk W q 28 (bkC d A' m c') by
    have h := Blk.new (w.alloc (.cells (bkC b A n c) 28)) 28 (bkC d A' m c')
    rw [World.size_alloc] at h
    rw [HW.out, hq.out]; exact h)
  have HK := Lib.hid (show Below w.heap.size w W by rw [HW.out]; exact (bAlloc _ _).alloc (by simp) _)
  have HA := Lib.hid (InsAt.next ha HK.out)
  have HA' := Lib.hid (InsAt.next hb HK.out)
  obtain ⟨z, hz⟩ : ∃ z, Hid (z = decide (b = d)) := ⟨_, rfl⟩
  rw [← hz.out]
  have HZ := Lib.hid (show z = (hdEq b d && decide (b.code = d.code)) by rw [hz.out, bk_eq])
  clear ha hb hz
  go_enter Tryz.func19, Tryz.ntmps19
  go_upto_region 1 with fail
  rw [← HW.out, ← hq.out, ← hp.out]
  clear HW hp hq
  have b0 := HB.out.cell 0
  have b1 := HB.out.cell 1
  have b2 := HB.out.cell 2
  have b3 := HB.out.cell 3
  have b4 := HB.out.cell 4
  have b5 := HB.out.cell 5
  have b6 := HB.out.cell 6
  have b7 := HB.out.cell 7
  have b8 := HB.out.cell 8
  have bl := HB.out.lt
  have d0 := HD.out.cell 0
  have d1 := HD.out.cell 1
  have d2 := HD.out.cell 2
  have d3 := HD.out.cell 3
  have d4 := HD.out.cell 4
  have d5 := HD.out.cell 5
  have d6 := HD.out.cell 6
  have d7 := HD.out.cell 7
  have d8 := HD.out.cell 8
  have dl := HD.out.lt
  simp at b0 b1 b2 b3 b4 b5 b6 b7 b8 d0 d1 d2 d3 d4 d5 d6 d7 d8
  have HLN := Lib.hid (show b.code.length = n from hn.out.symm)
  have HLM := Lib.hid (show d.code.length = m from hm.out.symm)
  have hnn : n ≤ 3000000000000 := HA.out.1.2
  clear hn hm
  go_wp2_with fail
  · have HZ2 := Lib.hid (show z = false by
      rw [HZ.out, Bool.and_eq_false_iff]
      refine .inr (decide_eq_false fun e => ?_)
      rename_i g
      simp at g
      rw [← HLN.out, ← HLM.out, e] at g
      exact g rfl)
    go_ret
    exact ⟨ret_bool HZ2.out.symm, HK.out⟩
  · have hh : hdEq b d = true := by
      unfold hdEq
      simp only [Bool.and_eq_true, beq_iff_eq]
      exact ⟨by assumption, ⟨by assumption, by assumption, by assumption⟩, by assumption, by assumption, by assumption, by assumption⟩
    have HZ2 := Lib.hid (show z = decide (b.code = d.code) by rw [HZ.out, hh]; rfl)
    rename_i g1 g2 g3 g4 g5 g6 g7 g8 g9 K hK
    have hnm : n = m := by simp at g9; omega
    clear hh g1 g2 g3 g4 g5 g6 g7 g8 g9 b0 b1 b2 b3 b4 b5 b6 b7 d0 d1 d2 d3 d4 d5 d6 d7
    subst hnm
    simp only [bne_self_eq_false]
    go_loopw [5] (fun i wr => ∃ j : Nat, i = .int .i64 j ∧ j ≤ n ∧ Hid (Below W.heap.size W wr) ∧ Hid (b.code.take j = d.code.take j)) (fun i _ => n - (intOf i).toNat)
    case atStart => exact ⟨0, rfl, Nat.zero_le _, Lib.hid (Below.refl _ _), Lib.hid rfl⟩
    case round =>
      obtain ⟨j, rfl, hj, HR, HT⟩ := hrel
      have t8 := (HR.out.cell (p := ⟨p, 8, none⟩) bl).trans b8
      have s8 := (HR.out.cell (p := ⟨q, 8, none⟩) dl).trans d8
      have hpz : p < wr.heap.size := by have := HR.out.size; omega
      have hqz : q < wr.heap.size := by have := HR.out.size; omega
      by_cases hlt : j < n
      · obtain ⟨g, off, x, rfl, hbb, hx, hcs⟩ := HA.out.at hlt
        obtain ⟨b', off', y, rfl, hbb', hy, hcs'⟩ := HA'.out.at hlt
        have HX := Lib.hid hx
        have HY := Lib.hid hy
        obtain ⟨q0, q1, q2, q3, q4, q5⟩ := hcs.below hbb HR.out
        obtain ⟨r0, r1, r2, r3, r4, r5⟩ := hcs'.below hbb' HR.out
        clear hx hy hcs hcs' b8 d8
        have hbz : g < wr.heap.size := by have := HR.out.size; omega
        have hbz' : b' < wr.heap.size := by have := HR.out.size; omega
        go_upto_region 6 with fail
        obtain ⟨D, hD⟩ : ∃ X, Hid (X = wr.drew) := ⟨_, rfl⟩
        have hd : Below wr.heap.size wr D := by rw [hD.out]; exact bDrewN (Below.refl _ _) 1
        refine wp_region_N (fun w' => Below wr.heap.size wr w') (fun _ => true) (by kernel_rfl) ?_
        rw [← hD.out]
        clear hD
        have hS0 := hd
        refine wpAnyN_take (i := 0) (v := ?v1) rfl (by kernel_rfl) (by kernel_rfl) (by kernel_rfl) (by kernel_rfl) (fun _ _ _ h => h) (Or.inl ⟨by rfl, ?hy1⟩) (by assumption) ?_
        case hy1 => intro w hSw; (try dsimp only at hSw); go_simp; try with_reducible rfl
        simp only [Act.put, List.getElem_toArray, List.getElem_cons_zero, List.setIfInBounds_toArray, List.set_cons_zero, List.set_cons_succ]
        refine wpAnyN_take (i := 1) (v := ?v2) rfl (by kernel_rfl) (by kernel_rfl) (by kernel_rfl) (by kernel_rfl) (fun _ _ _ h => h) (Or.inl ⟨by rfl, ?hy2⟩) (by assumption) ?_
        case hy2 => intro w hSw; have c8 := (hSw.cell (p := ⟨p, _, none⟩) hpz).trans t8; go_simp; try with_reducible rfl
        simp only [Act.put, List.getElem_toArray, List.getElem_cons_zero, List.getElem_cons_succ, List.setIfInBounds_toArray, List.set_cons_zero, List.set_cons_succ]
        refine wpAnyN_take (i := 2) (v := ?v3) rfl (by kernel_rfl) (by kernel_rfl) (by kernel_rfl) (by kernel_rfl) (fun _ _ _ h => h) (Or.inl ⟨by rfl, ?hy3⟩) (by assumption) ?_
        case hy3 => intro w hSw; (try dsimp only at hSw); go_simp; try with_reducible rfl
        simp only [Act.put, List.getElem_toArray, List.getElem_cons_zero, List.getElem_cons_succ, List.setIfInBounds_toArray, List.set_cons_zero, List.set_cons_succ]
        refine wpAnyN_take (i := 3) (v := ?v4) rfl (by kernel_rfl) (by kernel_rfl) (by kernel_rfl) (by kernel_rfl) (fun _ _ _ h => h) (Or.inl ⟨by rfl, ?hy4⟩) (by assumption) ?_
        case hy4 => intro w hSw; (try dsimp only at hSw); go_simp; try with_reducible rfl
        simp only [Act.put, List.getElem_toArray, List.getElem_cons_zero, List.getElem_cons_succ, List.setIfInBounds_toArray, List.set_cons_zero, List.set_cons_succ]
        refine wpAnyN_take (i := 4) (v := ?v5) rfl (by kernel_rfl) (by kernel_rfl) (by kernel_rfl) (by kernel_rfl) (fun _ _ _ h => h) (Or.inl ⟨by rfl, ?hy5⟩) (by assumption) ?_
        case hy5 => intro w hSw; have c8 := (hSw.cell (p := ⟨p, _, none⟩) hpz).trans t8; have e0 := (hSw.cell (p := ⟨g, _, none⟩) hbz).trans q0; have e1 := (hSw.cell (p := ⟨g, _, none⟩) hbz).trans q1; have e2 := (hSw.cell (p := ⟨g, _, none⟩) hbz).trans q2; have e3 := (hSw.cell (p := ⟨g, _, none⟩) hbz).trans q3; have e4 := (hSw.cell (p := ⟨g, _, none⟩) hbz).trans q4; have e5 := (hSw.cell (p := ⟨g, _, none⟩) hbz).trans q5; go_simp; try with_reducible rfl
        simp only [Act.put, List.getElem_toArray, List.getElem_cons_zero, List.getElem_cons_succ, List.setIfInBounds_toArray, List.set_cons_zero, List.set_cons_succ]
        refine wpAnyN_take (i := 5) (v := ?v6) rfl (by kernel_rfl) (by kernel_rfl) (by kernel_rfl) (by kernel_rfl) (fun _ _ _ h => h) (Or.inl ⟨by rfl, ?hy6⟩) (by assumption) ?_
        case hy6 => intro w hSw; (try dsimp only at hSw); go_simp; try with_reducible rfl
        simp only [Act.put, List.getElem_toArray, List.getElem_cons_zero, List.getElem_cons_succ, List.setIfInBounds_toArray, List.set_cons_zero, List.set_cons_succ]
        refine wpAnyN_take (i := 6) (v := ?v7) rfl (by kernel_rfl) (by kernel_rfl) (by kernel_rfl) (by kernel_rfl) (fun _ _ _ h => h) (Or.inl ⟨by rfl, ?hy7⟩) (by assumption) ?_
        case hy7 => intro w hSw; have c8 := (hSw.cell (p := ⟨q, _, none⟩) hqz).trans s8; go_simp; try with_reducible rfl
        simp only [Act.put, List.getElem_toArray, List.getElem_cons_zero, List.getElem_cons_succ, List.setIfInBounds_toArray, List.set_cons_zero, List.set_cons_succ]
        refine wpAnyN_take (i := 7) (v := ?v8) rfl (by kernel_rfl) (by kernel_rfl) (by kernel_rfl) (by kernel_rfl) (fun _ _ _ h => h) (Or.inl ⟨by rfl, ?hy8⟩) (by assumption) ?_
        case hy8 => intro w hSw; (try dsimp only at hSw); go_simp; try with_reducible rfl
        simp only [Act.put, List.getElem_toArray, List.getElem_cons_zero, List.getElem_cons_succ, List.setIfInBounds_toArray, List.set_cons_zero, List.set_cons_succ]
        refine wpAnyN_take (i := 8) (v := ?v9) rfl (by kernel_rfl) (by kernel_rfl) (by kernel_rfl) (by kernel_rfl) (fun _ _ _ h => h) (Or.inl ⟨by rfl, ?hy9⟩) (by assumption) ?_
        case hy9 => intro w hSw; (try dsimp only at hSw); go_simp; try with_reducible rfl
        simp only [Act.put, List.getElem_toArray, List.getElem_cons_zero, List.getElem_cons_succ, List.setIfInBounds_toArray, List.set_cons_zero, List.set_cons_succ]
        refine wpAnyN_take (i := 9) (v := ?v10) rfl (by kernel_rfl) (by kernel_rfl) (by kernel_rfl) (by kernel_rfl) (fun _ _ _ h => h) (Or.inl ⟨by rfl, ?hy10⟩) (by assumption) ?_
        case hy10 => intro w hSw; have c8 := (hSw.cell (p := ⟨q, _, none⟩) hqz).trans s8; have e0 := (hSw.cell (p := ⟨b', _, none⟩) hbz').trans r0; have e1 := (hSw.cell (p := ⟨b', _, none⟩) hbz').trans r1; have e2 := (hSw.cell (p := ⟨b', _, none⟩) hbz').trans r2; have e3 := (hSw.cell (p := ⟨b', _, none⟩) hbz').trans r3; have e4 := (hSw.cell (p := ⟨b', _, none⟩) hbz').trans r4; have e5 := (hSw.cell (p := ⟨b', _, none⟩) hbz').trans r5; go_simp; try with_reducible rfl
        simp only [Act.put, List.getElem_toArray, List.getElem_cons_zero, List.getElem_cons_succ, List.setIfInBounds_toArray, List.set_cons_zero, List.set_cons_succ]
        have HDD := Lib.hid (HR.out.trans (hd.mono HR.out.size))
        by_cases hxy : x = y
        · subst hxy
          have HT2 := Lib.hid (show b.code.take (j + 1) = d.code.take (j + 1) by rw [List.take_add_one, List.take_add_one, HT.out, HX.out, HY.out])
          refine wpAnyN_take (i := 10) (v := .bool false) rfl (by kernel_rfl) (by kernel_rfl) (by kernel_rfl) (by kernel_rfl) (fun _ _ _ h => h) (Or.inl ⟨by rfl, ?hv9⟩) (by assumption) ?_
          case hv9 => intro w' hSw; go_simp
          (try simp only [Act.put, List.setIfInBounds_toArray])
          refine wpAnyN_done (by kernel_rfl) ?_ _
          go_wp2_with fail
          exact ⟨⟨j + 1, by go_num, by omega, HDD, HT2⟩, by simp [intOf]; omega⟩
        · have HXY := Lib.hid hxy
          have HXX := Lib.hid (neq_prop hxy)
          have HZ3 := Lib.hid (show z = false by
            rw [HZ2.out]
            refine decide_eq_false fun e => HXY.out ?_
            have h1 := HX.out
            rw [e, HY.out] at h1
            injection h1 with h1
            exact h1.symm)
          clear hxy
          refine wpAnyN_take (i := 10) (v := .bool true) rfl (by kernel_rfl) (by kernel_rfl) (by kernel_rfl) (by kernel_rfl) (fun _ _ _ h => h) (Or.inl ⟨by rfl, ?hv8⟩) (by assumption) ?_
          case hv8 => intro w' hSw; go_simp; exact HXX.out
          (try simp only [Act.put, List.setIfInBounds_toArray])
          refine wpAnyN_done (by kernel_rfl) ?_ _
          go_wp2_with fail
          go_ret
          exact ⟨ret_bool HZ3.out.symm, bNext HK.out HDD.out⟩
      · have HZ3 := Lib.hid (show z = true by
          rw [HZ2.out]
          refine decide_eq_true ?_
          have h1 := HT.out
          rw [List.take_of_length_le (by have := HLN.out; omega), List.take_of_length_le (by have := HLM.out; omega)] at h1
          exact h1)
        go_wp2_with fail
        go_ret
        exact ⟨ret_bool HZ3.out.symm, bNext HK.out HR.out⟩
  all_goals
    have hh : hdEq b d = false := by
      rw [Bool.eq_false_iff]
      intro e
      simp only [hdEq, Bool.and_eq_true, beq_iff_eq] at e
      obtain ⟨e1, ⟨e2, e3, e4⟩, e5, e6, e7, e8⟩ := e
      contradiction
    have HZ2 := Lib.hid (show z = false by rw [HZ.out, hh]; rfl)
    clear hh
    go_ret
    exact ⟨ret_bool HZ2.out.symm, HK.out⟩
end
section
open Go.RowKit

set_option maxRecDepth 100000 in
set_option maxHeartbeats 1000000 in
theorem numbers_any (A B : Option Addr) (n m c d : Nat) (l k : List Int) (w : World) (ha : IntsAt w w.heap.size A n l) (hb : IntsAt w w.heap.size B m k) :
    Calls Tryz.prog 21 #[.slice A n c, .slice B m d] w fun e w' => e = .returned (.bool (decide (l = k))) ∧ Below w.heap.size w w' := by
  have HA := Lib.hid ha
  have HB := Lib.hid hb
  have HLN := Lib.hid ha.len
  have HLM := Lib.hid hb.len
  have hnn : n ≤ 1000000 := ha.1.2
  clear ha hb
  obtain ⟨z, hz⟩ : ∃ z, Hid (z = decide (l = k)) := ⟨_, rfl⟩
  rw [← hz.out]
  go_enter Tryz.func21, Tryz.ntmps21
  by_cases hnm : n = m
  · subst hnm
    go_wp2_with fail
    try simp only [bne_self_eq_false]
    go_loopw [5] (fun i wr => ∃ j : Nat, i = .int .i64 j ∧ j ≤ n ∧ Hid (Below w.heap.size w wr) ∧ Hid (l.take j = k.take j)) (fun i _ => n - (intOf i).toNat)
    case atStart => exact ⟨0, rfl, Nat.zero_le _, Lib.hid (Below.refl _ _), Lib.hid rfl⟩
    case round =>
      obtain ⟨j, rfl, hj, HR, HT⟩ := hrel
      by_cases hlt : j < n
      · obtain ⟨b, off, x, rfl, hbb, hx, hc⟩ := HA.out.at hlt
        obtain ⟨b', off', y, rfl, hbb', hy, hc'⟩ := HB.out.at hlt
        have HX := Lib.hid hx
        have HY := Lib.hid hy
        have q0 := (HR.out.cell (p := ⟨b, _, none⟩) hbb).trans hc
        have r0 := (HR.out.cell (p := ⟨b', _, none⟩) hbb').trans hc'
        have hbz : b < wr.heap.size := by have := HR.out.size; omega
        have hbz' : b' < wr.heap.size := by have := HR.out.size; omega
        clear hx hy hc hc'
        go_upto_region 6 with fail
        obtain ⟨D, hD⟩ : ∃ X, Hid (X = wr.drew) := ⟨_, rfl⟩
        have hd : Below wr.heap.size wr D := by rw [hD.out]; exact bDrewN (Below.refl _ _) 1
        have HDD := Lib.hid (HR.out.trans (hd.mono HR.out.size))
        refine wp_region_N (fun w' => Below wr.heap.size wr w') (fun _ => true) (by kernel_rfl) ?_
        rw [← hD.out]
        clear hD
        have hS0 := hd
        refine wpAnyN_take (i := 0) (v := ?v1) rfl (by kernel_rfl) (by kernel_rfl) (by kernel_rfl) (by kernel_rfl) (fun _ _ _ h => h) (Or.inl ⟨by rfl, ?hy1⟩) (by assumption) ?_
        case hy1 => intro w hSw; (try dsimp only at hSw); go_simp; try with_reducible rfl
        simp only [Act.put, List.getElem_toArray, List.getElem_cons_zero, List.setIfInBounds_toArray, List.set_cons_zero, List.set_cons_succ]
        refine wpAnyN_take (i := 1) (v := ?v2) rfl (by kernel_rfl) (by kernel_rfl) (by kernel_rfl) (by kernel_rfl) (fun _ _ _ h => h) (Or.inl ⟨by rfl, ?hy2⟩) (by assumption) ?_
        case hy2 => intro w hSw; (try dsimp only at hSw); go_simp; try with_reducible rfl
        simp only [Act.put, List.getElem_toArray, List.getElem_cons_zero, List.getElem_cons_succ, List.setIfInBounds_toArray, List.set_cons_zero, List.set_cons_succ]
        refine wpAnyN_take (i := 2) (v := ?v3) rfl (by kernel_rfl) (by kernel_rfl) (by kernel_rfl) (by kernel_rfl) (fun _ _ _ h => h) (Or.inl ⟨by rfl, ?hy3⟩) (by assumption) ?_
        case hy3 => intro w hSw; (try dsimp only at hSw); go_simp; try with_reducible rfl
        simp only [Act.put, List.getElem_toArray, List.getElem_cons_zero, List.getElem_cons_succ, List.setIfInBounds_toArray, List.set_cons_zero, List.set_cons_succ]
        refine wpAnyN_take (i := 3) (v := ?v4) rfl (by kernel_rfl) (by kernel_rfl) (by kernel_rfl) (by kernel_rfl) (fun _ _ _ h => h) (Or.inl ⟨by rfl, ?hy4⟩) (by assumption) ?_
        case hy4 => intro w hSw; have e0 := (hSw.cell (p := ⟨b, _, none⟩) hbz).trans q0; go_simp; try with_reducible rfl
        simp only [Act.put, List.getElem_toArray, List.getElem_cons_zero, List.getElem_cons_succ, List.setIfInBounds_toArray, List.set_cons_zero, List.set_cons_succ]
        refine wpAnyN_take (i := 4) (v := ?v5) rfl (by kernel_rfl) (by kernel_rfl) (by kernel_rfl) (by kernel_rfl) (fun _ _ _ h => h) (Or.inl ⟨by rfl, ?hy5⟩) (by assumption) ?_
        case hy5 => intro w hSw; (try dsimp only at hSw); go_simp; try with_reducible rfl
        simp only [Act.put, List.getElem_toArray, List.getElem_cons_zero, List.getElem_cons_succ, List.setIfInBounds_toArray, List.set_cons_zero, List.set_cons_succ]
        refine wpAnyN_take (i := 5) (v := ?v6) rfl (by kernel_rfl) (by kernel_rfl) (by kernel_rfl) (by kernel_rfl) (fun _ _ _ h => h) (Or.inl ⟨by rfl, ?hy6⟩) (by assumption) ?_
        case hy6 => intro w hSw; (try dsimp only at hSw); go_simp; try with_reducible rfl
        simp only [Act.put, List.getElem_toArray, List.getElem_cons_zero, List.getElem_cons_succ, List.setIfInBounds_toArray, List.set_cons_zero, List.set_cons_succ]
        refine wpAnyN_take (i := 6) (v := ?v7) rfl (by kernel_rfl) (by kernel_rfl) (by kernel_rfl) (by kernel_rfl) (fun _ _ _ h => h) (Or.inl ⟨by rfl, ?hy7⟩) (by assumption) ?_
        case hy7 => intro w hSw; (try dsimp only at hSw); go_simp; try with_reducible rfl
        simp only [Act.put, List.getElem_toArray, List.getElem_cons_zero, List.getElem_cons_succ, List.setIfInBounds_toArray, List.set_cons_zero, List.set_cons_succ]
        refine wpAnyN_take (i := 7) (v := ?v8) rfl (by kernel_rfl) (by kernel_rfl) (by kernel_rfl) (by kernel_rfl) (fun _ _ _ h => h) (Or.inl ⟨by rfl, ?hy8⟩) (by assumption) ?_
        case hy8 => intro w hSw; have e0 := (hSw.cell (p := ⟨b', _, none⟩) hbz').trans r0; go_simp; try with_reducible rfl
        simp only [Act.put, List.getElem_toArray, List.getElem_cons_zero, List.getElem_cons_succ, List.setIfInBounds_toArray, List.set_cons_zero, List.set_cons_succ]
        by_cases hxy : x = y
        · have HT2 := Lib.hid (show l.take (j + 1) = k.take (j + 1) by rw [List.take_add_one, List.take_add_one, HT.out, HX.out, HY.out, hxy])
          subst hxy
          refine wpAnyN_take (i := 8) (v := .bool false) rfl (by kernel_rfl) (by kernel_rfl) (by kernel_rfl) (by kernel_rfl) (fun _ _ _ h => h) (Or.inl ⟨by rfl, ?hv9⟩) (by assumption) ?_
          case hv9 => intro w' hSw; go_simp
          (try simp only [Act.put, List.setIfInBounds_toArray])
          refine wpAnyN_done (by kernel_rfl) ?_ _
          go_wp2_with fail
          exact ⟨⟨j + 1, by go_num, by omega, HDD, HT2⟩, by simp [intOf]; omega⟩
        · have HXY := Lib.hid hxy
          have HZ3 := Lib.hid (show z = false by
            rw [hz.out]
            refine decide_eq_false fun e => HXY.out ?_
            have h1 := HX.out
            rw [e, HY.out] at h1
            injection h1 with h1
            exact h1.symm)
          refine wpAnyN_take (i := 8) (v := .bool true) rfl (by kernel_rfl) (by kernel_rfl) (by kernel_rfl) (by kernel_rfl) (fun _ _ _ h => h) (Or.inl ⟨by rfl, ?hv8⟩) (by assumption) ?_
          case hv8 => intro w' hSw; go_simp
          (try simp only [Act.put, List.setIfInBounds_toArray])
          refine wpAnyN_done (by kernel_rfl) ?_ _
          clear hxy
          go_wp2_with fail
          go_ret
          exact ⟨ret_bool HZ3.out.symm, HDD.out⟩
      · have HZ3 := Lib.hid (show z = true by
          rw [hz.out]
          refine decide_eq_true ?_
          have h1 := HT.out
          rw [List.take_of_length_le (by have := HLN.out; omega), List.take_of_length_le (by have := HLM.out; omega)] at h1
          exact h1)
        go_wp2_with fail
        go_ret
        exact ⟨ret_bool HZ3.out.symm, HR.out⟩
  · have HZ3 := Lib.hid (show z = false by
      rw [hz.out]
      refine decide_eq_false fun e => hnm ?_
      rw [← HLN.out, ← HLM.out, e])
    have q1 : ((n : Int) == (m : Int)) = false := by rw [beq_eq_false_iff_ne]; omega
    have q2 : decide ((n : Int) = (m : Int)) = false := by rw [decide_eq_false_iff_not]; omega
    clear hnm
    go_wp2_with fail
    go_ret
    exact ⟨ret_bool HZ3.out.symm, Below.refl _ _⟩
end
section
open Go.RowKit

theorem own_setAt {w : World} {base g n c k : Nat} {e : TypeId} {size : Nat} {xs : List Value} (h : w.ownsRow base e size (.slice (some ⟨g, 0, none⟩) n c) n xs) (v : Value) :
    (w.setCell ⟨g, k, none⟩ v).ownsRow base e size (.slice (some ⟨g, 0, none⟩) n c) n (xs.set k v) := by
  obtain ⟨hl, ⟨hv, _⟩ | ⟨g', cap, cur, hv, hb, hh, hn, hm, hs, ht⟩⟩ := h
  · cases hv
  · injection hv with e1 _ e3
    injection e1 with e1
    injection e1 with e1
    subst e1 e3
    refine ⟨by rw [List.length_set, hl], .inr ⟨g, c, cur.setIfInBounds k v, rfl, hb, heap_setCell_same w g k cur e v hh, hn, hm, by rw [Array.size_setIfInBounds, hs], ?_⟩⟩
    rw [Array.toList_setIfInBounds, List.take_set, ht]
theorem aCs_set0 {x : In} (u : Int) : ∀ {l : List In} {i : Nat}, l[i]? = some x → (aCs l).set (i * 6) (.int .i64 u) = aCs (l.set i { x with op := u })
  | y :: l, 0, h => by injection h with h; subst h; rfl
  | y :: l, i + 1, h => by
    have := aCs_set0 u (l := l) (i := i) h
    rw [show (i + 1) * 6 = i * 6 + 6 by omega, List.set_cons_succ]
    simp only [aCs, List.set_cons_succ, this]
theorem aCs_set1 {x : In} (u : Int) : ∀ {l : List In} {i : Nat}, l[i]? = some x → (aCs l).set (i * 6 + 1) (.int .i64 u) = aCs (l.set i { x with r := u })
  | y :: l, 0, h => by injection h with h; subst h; rfl
  | y :: l, i + 1, h => by
    have := aCs_set1 u (l := l) (i := i) h
    rw [show (i + 1) * 6 + 1 = i * 6 + 1 + 6 by omega, List.set_cons_succ]
    simp only [aCs, List.set_cons_succ, this]
theorem aCs_set2 {x : In} (u : Int) : ∀ {l : List In} {i : Nat}, l[i]? = some x → (aCs l).set (i * 6 + 2) (.int .i64 u) = aCs (l.set i { x with a := u })
  | y :: l, 0, h => by injection h with h; subst h; rfl
  | y :: l, i + 1, h => by
    have := aCs_set2 u (l := l) (i := i) h
    rw [show (i + 1) * 6 + 2 = i * 6 + 2 + 6 by omega, List.set_cons_succ]
    simp only [aCs, List.set_cons_succ, this]
theorem aCs_set3 {x : In} (u : Int) : ∀ {l : List In} {i : Nat}, l[i]? = some x → (aCs l).set (i * 6 + 3) (.int .i64 u) = aCs (l.set i { x with n := u })
  | y :: l, 0, h => by injection h with h; subst h; rfl
  | y :: l, i + 1, h => by
    have := aCs_set3 u (l := l) (i := i) h
    rw [show (i + 1) * 6 + 3 = i * 6 + 3 + 6 by omega, List.set_cons_succ]
    simp only [aCs, List.set_cons_succ, this]
theorem aCs_set4 {x : In} (u : ByteArray) : ∀ {l : List In} {i : Nat}, l[i]? = some x → (aCs l).set (i * 6 + 4) (.string u) = aCs (l.set i { x with nm := u })
  | y :: l, 0, h => by injection h with h; subst h; rfl
  | y :: l, i + 1, h => by
    have := aCs_set4 u (l := l) (i := i) h
    rw [show (i + 1) * 6 + 4 = i * 6 + 4 + 6 by omega, List.set_cons_succ]
    simp only [aCs, List.set_cons_succ, this]
theorem aCs_set5 {x : In} (u : Int) : ∀ {l : List In} {i : Nat}, l[i]? = some x → (aCs l).set (i * 6 + 5) (.int .i64 u) = aCs (l.set i { x with ar := u })
  | y :: l, 0, h => by injection h with h; subst h; rfl
  | y :: l, i + 1, h => by
    have := aCs_set5 u (l := l) (i := i) h
    rw [show (i + 1) * 6 + 5 = i * 6 + 5 + 6 by omega, List.set_cons_succ]
    simp only [aCs, List.set_cons_succ, this]
theorem own_ins' {w : World} {base n c : Nat} {A : Option Addr} {l : List In} (h : w.ownsRow base 34 6 (.slice A n c) n (aCs l)) (hn : n ≤ 3000000000000) : InsAt w w.heap.size A n l := by
  obtain ⟨hl, hd⟩ := h
  have hl' : l.length = n := by rw [aCs_len] at hl; omega
  refine ⟨⟨hl', hn⟩, fun h0 => ?_⟩
  rcases hd with ⟨h1, h2⟩ | ⟨g, cap, cur, h1, hb, hh, _, _, _, ht⟩
  · omega
  · injection h1 with e1 _ e3
    subst e1 e3
    refine ⟨g, 0, rfl, (Array.getElem?_eq_some_iff.1 hh).1, fun i x hx => ?_⟩
    have hi : i < l.length := (List.getElem?_eq_some_iff.1 hx).1
    have hc : ∀ k, k < 6 → w.cell? ⟨g, i * 6 + k, none⟩ = (aCs l)[i * 6 + k]? := fun k hk => by
      rw [cell_of_row w g (i * 6 + k) cur 34 (0, 0) hh, ← ht, List.getElem?_take, if_pos (by omega), Array.getElem?_toList]
    obtain ⟨a0, a1, a2, a3, a4, a5⟩ := aCs_at hx
    rw [Nat.zero_add]
    exact ⟨(hc 0 (by omega)).trans a0, (hc 1 (by omega)).trans a1, (hc 2 (by omega)).trans a2, (hc 3 (by omega)).trans a3, (hc 4 (by omega)).trans a4, (hc 5 (by omega)).trans a5⟩
end
end Go.Proofs.YtbipeakinmbdiaaGreatDoor
