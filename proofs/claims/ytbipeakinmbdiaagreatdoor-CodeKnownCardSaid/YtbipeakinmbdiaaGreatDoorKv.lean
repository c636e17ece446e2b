/-
  Walk: the examples hold (awake). DRAFT, does not build whole yet.
-/
import Derived.Test.YtbipeakinmbdiaaGreatDoorKu
import Derived.Test.YtbipeakinmbdiaaGreatDoorKa
namespace Go.Proofs.YtbipeakinmbdiaaGreatDoor
open Go.RowKit

theorem lit_ints (w : World) (l : List Int) (h : l.length ≤ 1000000) (cs : Array Value) (hc : cs = (iCs l).toArray) : IntsAt (w.alloc (.cells cs 3)) (w.alloc (.cells cs 3)).heap.size (some ⟨w.heap.size, 0, none⟩) l.length l := by
  subst hc
  refine ⟨⟨rfl, h⟩, fun _ => ⟨w.heap.size, 0, rfl, (Blk.new w 3 _).lt, fun i x hx => ?_⟩⟩
  rw [Nat.zero_add, (Blk.new w 3 _).cell i]
  rw [List.getElem?_toArray]
  unfold iCs
  rw [List.getElem?_map, hx]
  rfl
theorem ret_ints {w w1 : World} {l : List Int} {v : Value} (h : OwnL w w1 v l) (hl : l.length ≤ 1000000) : ∃ A c, v = .slice A l.length c ∧ IntsAt w1 w1.heap.size A l.length l ∧ Below w.heap.size w w1 := by
  obtain ⟨A, c, rfl⟩ := own_form2 h.1
  exact ⟨A, c, rfl, own_ints h.1 hl, h.2⟩
/-- two rows of the same integers -/
def Two (w6 : World) (l : List Int) (vi vj : Value) (w : World) : Prop :=
  ∃ A c g, vi = .slice A l.length c ∧ vj = .slice (some ⟨g, 0, none⟩) l.length l.length ∧ IntsAt w w.heap.size A l.length l ∧ IntsAt w w.heap.size (some ⟨g, 0, none⟩) l.length l ∧ Below w6.heap.size w6 w
theorem rd_12 : rdOf ⟨12, -1, 2, 0, ⟨#[]⟩, 0⟩ = [-1] := by decide +kernel
theorem wr_12 : wrOf ⟨12, -1, 2, 0, ⟨#[]⟩, 0⟩ = [2] := by decide +kernel
theorem rd_19 : rdOf ⟨19, 0, 0, 7, ⟨#[]⟩, 2⟩ = [1, 2] := by decide +kernel
theorem wr_11 : wrOf ⟨11, 1, 1, 0, ⟨#[]⟩, 0⟩ = [1] := by decide +kernel
set_option maxRecDepth 100000 in
set_option maxHeartbeats 4000000 in
theorem awake_any (w : World) (h : Env w) : Calls Tryz.prog 12 #[] w fun e w' => e = .returned (.bool true) ∧ Below w.heap.size w w' := by
  have HE := Lib.hid h
  clear h
  go_enter Tryz.func12, Tryz.ntmps12
  go_wp2_with fail
  refine (fact_any _).mono ?_
  rintro e w1 ⟨A, c, rfl, ho, hb⟩
  have HK1 := Lib.hid hb
  have hi := own_ins ho (by decide)
  clear ho hb
  go_wp2_with fail
  refine (text_any factB A c w1 hi rg_fact (HE.out.next HK1.out)).mono ?_
  rintro e w2 ⟨rfl, hb⟩
  have HK2 := Lib.hid (bNext HK1.out hb)
  clear hb hi HK1
  rw [textV_fact]
  go_wp2_with fail
  refine (parse_any factT w2 (HE.out.next HK2.out) (by decide)).mono ?_
  rintro e w3 ⟨A3, n3, c3, hn3, rfl, ho3, hb3⟩
  rw [parse_fact] at hn3 ho3 ⊢
  have HN3 := Lib.hid hn3
  have HO3 := Lib.hid ho3
  have HK3 := Lib.hid (bNext HK2.out hb3)
  clear hn3 ho3 hb3 HK2
  go_upto_region 3 with fail
  obtain ⟨wb, hwb⟩ : ∃ X, Hid (X = w3.alloc (.cells (bkC factB A3 factB.code.length c3) 28)) := ⟨_, rfl⟩
  obtain ⟨p3, hp3⟩ : ∃ X, Hid (X = w3.heap.size) := ⟨_, rfl⟩
  rw [show w3.alloc (.cells (bkC factB A3 factB.code.length c3) 28) = wb from hwb.out.symm, ← hp3.out]
  have HP3 := Lib.hid (show Blk wb p3 28 (bkC factB A3 factB.code.length c3) by rw [hwb.out, hp3.out]; exact Blk.new _ _ _)
  have HKB := Lib.hid (show Below w.heap.size w wb by rw [hwb.out]; exact HK3.out.alloc HK3.out.size _)
  have HIB := Lib.hid (show InsAt wb wb.heap.size A3 factB.code.length factB.code by
    have h1 := own_ins (by rw [HN3.out] at HO3; exact HO3.out) (by decide)
    rw [hwb.out]
    exact h1.next (bAlloc _ _))
  clear hwb hp3
  go_wp2_with fail
  refine (rule_any wb).mono ?_
  rintro e w4 ⟨A4, c4, rfl, ho4, hb4⟩
  obtain ⟨g, cap, cur, hv, hg0, hh, hrest⟩ : ∃ g cap cur, Value.slice A4 ruleB.code.length c4 = .slice (some ⟨g, 0, none⟩) ruleB.code.length cap ∧ wb.heap.size ≤ g ∧ Blk w4 g 34 cur ∧ True := by
    rcases ho4.2 with ⟨h1, h2⟩ | ⟨g, cap, cur, h1, h2, h3, _⟩
    · cases h2
    · exact ⟨g, cap, cur, h1, h2, h3, trivial⟩
  injection hv with a1 a2 a3
  subst a1 a3
  have HG := Lib.hid hh
  have HKW := Lib.hid (And.intro hb4 hg0)
  have HO4 := Lib.hid ho4
  have HK4 := Lib.hid (bNext HKB.out hb4)
  have HIF := Lib.hid (HIB.out.next hb4)
  have HP4 := Lib.hid (HP3.out.next hb4)
  clear ho4 hb4 hh hrest hg0
  go_upto_region 4 with fail
  obtain ⟨w5, hw5⟩ : ∃ X, Hid (X = w4.alloc (.cells (bkC ruleB (some ⟨g, 0, none⟩) ruleB.code.length c4) 28)) := ⟨_, rfl⟩
  obtain ⟨p6, hp6⟩ : ∃ X, Hid (X = w4.heap.size) := ⟨_, rfl⟩
  rw [show w4.alloc (.cells (bkC ruleB (some ⟨g, 0, none⟩) ruleB.code.length c4) 28) = w5 from hw5.out.symm, ← hp6.out]
  have HP6 := Lib.hid (show Blk w5 p6 28 (bkC ruleB (some ⟨g, 0, none⟩) ruleB.code.length c4) by rw [hw5.out, hp6.out]; exact Blk.new _ _ _)
  have HG5 := Lib.hid (show Blk w5 g 34 cur by rw [hw5.out]; exact HG.out.alloc _)
  have HC5 := Lib.hid (show w5.cell? ⟨g, 19, none⟩ = some (.int .i64 (-1)) by
    rw [HG5.out.cell, ← HG.out.cell, HO4.out.cellAt (g := g) 19 (by decide)]
    rfl)
  have t8 := HP6.out.cell 8
  have tl := HP6.out.lt
  have c19 := HC5.out
  have f19 := HG5.out.frozen 19
  have gl := HG5.out.lt
  have n6 : ruleB.code.length = 6 := rfl
  simp at t8
  rw [n6] at t8
  go_upto_region 5 with fail
  obtain ⟨w6, hw6⟩ : ∃ X, Hid (X = w5.setCell ⟨g, 19, none⟩ (.int .i64 2)) := ⟨_, rfl⟩
  rw [← hw6.out]
  have HKW6 := Lib.hid (show Below wb.heap.size wb w6 by
    rw [hw6.out, hw5.out]
    exact ((HKW.out.1.alloc HKW.out.1.size _).setCell HKW.out.2 _))
  have HO6 := Lib.hid (show w6.ownsRow wb.heap.size 34 6 (.slice (some ⟨g, 0, none⟩) 6 c4) 6 (aCs wrongB.code) by
    rw [hw6.out]
    have h1 : w5.ownsRow wb.heap.size 34 6 (.slice (some ⟨g, 0, none⟩) 6 c4) 6 (aCs ruleB.code) := by
      rw [hw5.out]
      exact own_next HO4.out (bAlloc _ _)
    exact own_setAt (k := 19) h1 (.int .i64 2))
  have HI6 := Lib.hid (own_ins' HO6.out (by decide))
  have HIF6 := Lib.hid (show InsAt w6 w6.heap.size A3 factB.code.length factB.code from (HIB.out.below HKW6.out).more HKW6.out.size)
  have HP36 := Lib.hid (show Blk w6 p3 28 (bkC factB A3 factB.code.length c3) from HP3.out.below HKW6.out HP3.out.lt)
  have HP66 := Lib.hid (show Blk w6 p6 28 (bkC ruleB (some ⟨g, 0, none⟩) ruleB.code.length c4) by
    rw [hw6.out]
    refine HP6.out.far ?_ _
    have h1 := HG.out.lt
    have h2 := hp6.out
    show p6 ≠ g
    omega)
  have HK6 := Lib.hid (show Below w.heap.size w w6 from bNext HKB.out HKW6.out)
  clear hw6 HKW6 HO6 HKW HG HG5 HC5 HP6 hw5 hp6 HP4 HIF HK4 HO4 HP3 HKB HIB t8 tl c19 f19 gl n6
  go_wp2_with fail
  refine (parse_any callT w6 (HE.out.next HK6.out) (by decide)).mono ?_
  rintro e w7 ⟨A7, n7, c7, hn7, rfl, ho7, hb7⟩
  rw [parse_call] at hn7 ho7 ⊢
  clear hn7 ho7
  have HB7 := Lib.hid hb7
  clear hb7
  go_upto_region 6 with fail
  obtain ⟨w8, hw8⟩ : ∃ X, Hid (X = w7.alloc (.cells (bkC zBk A7 zBk.code.length c7) 28)) := ⟨_, rfl⟩
  refine wp_region_N (fun w' => Below w6.heap.size w6 w') (fun _ => true) (by kernel_rfl) ?_
  change wpAnyN _ _ _ _ _ _ _ _ _ (w7.alloc (.cells (bkC zBk A7 zBk.code.length c7) 28)).drew
  rw [← hw8.out]
  have hS0 : Below w6.heap.size w6 w8.drew := by rw [hw8.out]; exact (HB7.out.alloc HB7.out.size _).drew
  refine wpAnyN_take (i := 0) (v := .int .i64 0) rfl (by kernel_rfl) (by kernel_rfl) (by kernel_rfl) (by kernel_rfl) (fun _ _ _ h => h) (Or.inl ⟨by kernel_rfl, ?hq0⟩) (by assumption) ?_
  case hq0 => intro w hSw; go_simp
  simp only [Act.put, List.getElem_toArray, List.setIfInBounds_toArray]
  refine wpAnyN_take (i := 1) (v := .bool true) rfl (by kernel_rfl) (by kernel_rfl) (by kernel_rfl) (by kernel_rfl) (fun _ _ _ h => h) (Or.inl ⟨by kernel_rfl, ?hq1⟩) (by assumption) ?_
  case hq1 => intro w hSw; go_simp
  simp only [Act.put, List.getElem_toArray]
  refine wpAnyN_take (i := 2) (v := .bool true) rfl (by kernel_rfl) (by kernel_rfl) (by kernel_rfl) (by kernel_rfl) (fun _ _ _ h => h) (Or.inl ⟨by kernel_rfl, ?hq2⟩) (by assumption) ?_
  case hq2 => intro w hSw; go_simp
  simp only [Act.put, List.getElem_toArray]
  refine wpAnyN_take (i := 3) (v := .string (S factT)) rfl (by kernel_rfl) (by kernel_rfl) (by kernel_rfl) (by kernel_rfl) (fun _ _ _ h => h) (Or.inl ⟨by kernel_rfl, ?hq3⟩) (by assumption) ?_
  case hq3 => intro w hSw; go_simp
  simp only [Act.put, List.getElem_toArray]
  refine wpAnyN_take (i := 4) (v := .bool true) rfl (by kernel_rfl) (by kernel_rfl) (by kernel_rfl) (by kernel_rfl) (fun _ _ _ h => h) (Or.inl ⟨by kernel_rfl, ?hq4⟩) (by assumption) ?_
  case hq4 => intro w hSw; go_simp; rw [ByteArray.toList_eq, S_list]; rfl
  simp only [Act.put, List.getElem_toArray]
  refine wpAnyN_take (i := 5) (v := .bool true) rfl (by kernel_rfl) (by kernel_rfl) (by kernel_rfl) (by kernel_rfl) (fun _ _ _ h => h) (Or.inl ⟨by kernel_rfl, ?hq5⟩) (by assumption) ?_
  case hq5 => intro w hSw; go_simp
  simp only [Act.put, List.getElem_toArray]
  refine wpAnyN_take (i := 6) (v := .bool true) rfl (by kernel_rfl) (by kernel_rfl) (by kernel_rfl) (by kernel_rfl) (fun _ _ _ h => h) (Or.inl ⟨by kernel_rfl, ?hq6⟩) (by assumption) ?_
  case hq6 => intro w hSw; go_simp
  simp only [Act.put, List.getElem_toArray]
  refine wpAnyN_take (i := 7) (v := .int .i64 0) rfl (by kernel_rfl) (by kernel_rfl) (by kernel_rfl) (by kernel_rfl) (fun _ _ _ h => h) (Or.inl ⟨by kernel_rfl, ?hq7⟩) (by assumption) ?_
  case hq7 => intro w hSw; go_simp
  simp only [Act.put, List.getElem_toArray]
  refine wpAnyN_take (i := 8) (v := .bool true) rfl (by kernel_rfl) (by kernel_rfl) (by kernel_rfl) (by kernel_rfl) (fun _ _ _ h => h) (Or.inl ⟨by kernel_rfl, ?hq8⟩) (by assumption) ?_
  case hq8 => intro w hSw; go_simp
  simp only [Act.put, List.getElem_toArray]
  refine wpAnyN_take (i := 9) (v := .bool true) rfl (by kernel_rfl) (by kernel_rfl) (by kernel_rfl) (by kernel_rfl) (fun _ _ _ h => h) (Or.inl ⟨by kernel_rfl, ?hq9⟩) (by assumption) ?_
  case hq9 => intro w hSw; go_simp
  simp only [Act.put, List.getElem_toArray]
  refine wpAnyN_take (i := 10) (v := .bool true) rfl (by kernel_rfl) (by kernel_rfl) (by kernel_rfl) (by kernel_rfl) (fun _ _ _ h => h) (Or.inl ⟨by kernel_rfl, ?hq10⟩) (by assumption) ?_
  case hq10 => intro w hSw; go_simp
  simp only [Act.put, List.getElem_toArray]
  refine wpAnyN_take (i := 11) (v := .int .i64 0) rfl (by kernel_rfl) (by kernel_rfl) (by kernel_rfl) (by kernel_rfl) (fun _ _ _ h => h) (Or.inl ⟨by kernel_rfl, ?hq11⟩) (by assumption) ?_
  case hq11 => intro w hSw; go_simp
  simp only [Act.put, List.getElem_toArray]
  refine wpAnyN_take (i := 12) (v := .bool true) rfl (by kernel_rfl) (by kernel_rfl) (by kernel_rfl) (by kernel_rfl) (fun _ _ _ h => h) (Or.inl ⟨by kernel_rfl, ?hq12⟩) (by assumption) ?_
  case hq12 => intro w hSw; go_simp
  simp only [Act.put, List.getElem_toArray]
  refine wpAnyN_take (i := 13) (v := .bool true) rfl (by kernel_rfl) (by kernel_rfl) (by kernel_rfl) (by kernel_rfl) (fun _ _ _ h => h) (Or.inl ⟨by kernel_rfl, ?hq13⟩) (by assumption) ?_
  case hq13 => intro w hSw; go_simp
  simp only [Act.put, List.getElem_toArray]
  refine wpAnyN_take (i := 14) (v := .bool true) rfl (by kernel_rfl) (by kernel_rfl) (by kernel_rfl) (by kernel_rfl) (fun _ _ _ h => h) (Or.inl ⟨by kernel_rfl, ?hq14⟩) (by assumption) ?_
  case hq14 => intro w hSw; go_simp
  simp only [Act.put, List.getElem_toArray]
  refine wpAnyN_take (i := 15) (v := factB.v A3 c3) rfl (by kernel_rfl) (by kernel_rfl) (by kernel_rfl) (by kernel_rfl) (fun _ _ _ h => h) (Or.inl ⟨by kernel_rfl, ?hq15⟩) (by assumption) ?_
  case hq15 =>
    intro w hSw
    have HQ := Lib.hid (HP36.out.next hSw)
    have t0 := HQ.out.cell 0
    have t1 := HQ.out.cell 1
    have t2 := HQ.out.cell 2
    have t3 := HQ.out.cell 3
    have t4 := HQ.out.cell 4
    have t5 := HQ.out.cell 5
    have t6 := HQ.out.cell 6
    have t7 := HQ.out.cell 7
    have t8 := HQ.out.cell 8
    have tl := HQ.out.lt
    simp at t0 t1 t2 t3 t4 t5 t6 t7 t8
    go_simp
    try rfl
  simp only [Act.put, List.getElem_toArray]
  refine wpAnyN_one (i := 16) (by kernel_rfl) rfl (fun K hK => ?_)
  simp only [List.getElem_toArray]
  go_simp
  refine (fact_any _).mono ?_
  rintro e w9 ⟨A9, c9, rfl, ho9, hb9⟩
  have HK9 := Lib.hid (show Below w6.heap.size w6 w9 from bNext (by assumption) hb9)
  have HI9 := Lib.hid (own_ins ho9 (by decide))
  have HIF9 := Lib.hid (HIF6.out.next HK9.out)
  clear ho9 hb9 hS0
  refine hK _ _ (fun _ => HK9.out) ?_
  (try simp only [Act.put, List.setIfInBounds_toArray, List.set_cons_zero, List.set_cons_succ])
  clear hK
  have hS9 := HK9.out
  refine wpAnyN_one (i := 17) (by kernel_rfl) rfl (fun K hK => ?_)
  simp only [List.getElem_toArray]
  go_simp
  refine (same_any factB factB A3 A9 c3 c9 w9 HIF9.out HI9.out).mono ?_
  rintro e w10 ⟨rfl, hb⟩
  rw [decide_eq_true (rfl : factB = factB)]
  have HK10 := Lib.hid (bNext HK9.out hb)
  clear hb HIF9 HI9
  refine hK _ _ (fun _ => HK10.out) ?_
  (try simp only [Act.put, List.setIfInBounds_toArray, List.set_cons_zero, List.set_cons_succ])
  clear hK hS9
  have hS10 := HK10.out
  refine wpAnyN_take (i := 18) (v := .bool true) rfl (by kernel_rfl) (by kernel_rfl) (by kernel_rfl) (by kernel_rfl) (fun _ _ _ h => h) (Or.inl ⟨by kernel_rfl, ?hq18⟩) (by assumption) ?_
  case hq18 => intro w hSw; go_simp
  simp only [Act.put, List.getElem_toArray, List.setIfInBounds_toArray]
  refine wpAnyN_take (i := 19) (v := .bool true) rfl (by kernel_rfl) (by kernel_rfl) (by kernel_rfl) (by kernel_rfl) (fun _ _ _ h => h) (Or.inl ⟨by kernel_rfl, ?hq19⟩) (by assumption) ?_
  case hq19 => intro w hSw; go_simp
  simp only [Act.put, List.getElem_toArray]
  refine wpAnyN_take (i := 20) (v := factB.v A3 c3) rfl (by kernel_rfl) (by kernel_rfl) (by kernel_rfl) (by kernel_rfl) (fun _ _ _ h => h) (Or.inl ⟨by kernel_rfl, ?hq20⟩) (by assumption) ?_
  case hq20 => 
    intro w hSw
    have HQ := Lib.hid (HP36.out.next hSw)
    have t0 := HQ.out.cell 0
    have t1 := HQ.out.cell 1
    have t2 := HQ.out.cell 2
    have t3 := HQ.out.cell 3
    have t4 := HQ.out.cell 4
    have t5 := HQ.out.cell 5
    have t6 := HQ.out.cell 6
    have t7 := HQ.out.cell 7
    have t8 := HQ.out.cell 8
    have tl := HQ.out.lt
    simp at t0 t1 t2 t3 t4 t5 t6 t7 t8
    go_simp
    try rfl
  simp only [Act.put, List.getElem_toArray]
  refine wpAnyN_one (i := 21) (by kernel_rfl) rfl (fun K hK => ?_)
  simp only [List.getElem_toArray]
  go_simp
  refine (fact_any _).mono ?_
  rintro e w11 ⟨A11, c11, rfl, ho11, hb⟩
  have HK11 := Lib.hid (bNext HK10.out hb)
  have HI11 := Lib.hid (own_ins ho11 (by decide))
  have HIF11 := Lib.hid (HIF6.out.next HK11.out)
  refine hK _ _ (fun _ => HK11.out) ?_
  (try simp only [Act.put, List.setIfInBounds_toArray, List.set_cons_zero, List.set_cons_succ])
  clear hK hS10 ho11 hb
  have hS11 := HK11.out
  refine wpAnyN_one (i := 22) (by kernel_rfl) rfl (fun K hK => ?_)
  simp only [List.getElem_toArray]
  go_simp
  refine (Same_any factB factB A3 A11 c3 c11 w11 HIF11.out HI11.out).mono ?_
  rintro e w12 ⟨rfl, hb⟩
  rw [decide_eq_true (rfl : factB = factB)]
  have HK12 := Lib.hid (bNext HK11.out hb)
  refine hK _ _ (fun _ => HK12.out) ?_
  (try simp only [Act.put, List.setIfInBounds_toArray, List.set_cons_zero, List.set_cons_succ])
  clear hK hS11 hb HIF11 HI11
  have hS12 := HK12.out
  refine wpAnyN_take (i := 23) (v := .bool true) rfl (by kernel_rfl) (by kernel_rfl) (by kernel_rfl) (by kernel_rfl) (fun _ _ _ h => h) (Or.inl ⟨by kernel_rfl, ?hq23⟩) (by assumption) ?_
  case hq23 => intro w hSw; go_simp
  simp only [Act.put, List.getElem_toArray, List.setIfInBounds_toArray]
  refine wpAnyN_take (i := 24) (v := .bool true) rfl (by kernel_rfl) (by kernel_rfl) (by kernel_rfl) (by kernel_rfl) (fun _ _ _ h => h) (Or.inl ⟨by kernel_rfl, ?hq24⟩) (by assumption) ?_
  case hq24 => intro w hSw; go_simp
  simp only [Act.put, List.getElem_toArray]
  refine wpAnyN_one (i := 25) (by kernel_rfl) rfl (fun K hK => ?_)
  simp only [List.getElem_toArray]
  go_simp
  refine (rule_any _).mono ?_
  rintro e w13 ⟨A13, c13, rfl, ho13, hb⟩
  have HK13 := Lib.hid (bNext HK12.out hb)
  have HI13 := Lib.hid (own_ins ho13 (by decide))
  refine hK _ _ (fun _ => HK13.out) ?_
  (try simp only [Act.put, List.setIfInBounds_toArray, List.set_cons_zero, List.set_cons_succ])
  clear hK hS12 ho13 hb
  have hS13 := HK13.out
  refine wpAnyN_one (i := 26) (by kernel_rfl) rfl (fun K hK => ?_)
  simp only [List.getElem_toArray]
  go_simp
  refine (valid_any ruleB A13 c13 w13 HI13.out).mono ?_
  rintro e w14 ⟨rfl, hb⟩
  rw [va_rule]
  have HK14 := Lib.hid (bNext HK13.out hb)
  have HI14 := Lib.hid (HI6.out.next HK14.out)
  refine hK _ _ (fun _ => HK14.out) ?_
  (try simp only [Act.put, List.setIfInBounds_toArray, List.set_cons_zero, List.set_cons_succ])
  clear hK hS13 hb HI13
  have hS14 := HK14.out
  refine wpAnyN_take (i := 27) (v := .bool true) rfl (by kernel_rfl) (by kernel_rfl) (by kernel_rfl) (by kernel_rfl) (fun _ _ _ h => h) (Or.inl ⟨by kernel_rfl, ?hq27⟩) (by assumption) ?_
  case hq27 => intro w hSw; go_simp
  simp only [Act.put, List.getElem_toArray, List.setIfInBounds_toArray]
  refine wpAnyN_take (i := 28) (v := .bool true) rfl (by kernel_rfl) (by kernel_rfl) (by kernel_rfl) (by kernel_rfl) (fun _ _ _ h => h) (Or.inl ⟨by kernel_rfl, ?hq28⟩) (by assumption) ?_
  case hq28 => intro w hSw; go_simp
  simp only [Act.put, List.getElem_toArray]
  refine wpAnyN_take (i := 29) (v := wrongB.v (some ⟨g, 0, none⟩) c4) rfl (by kernel_rfl) (by kernel_rfl) (by kernel_rfl) (by kernel_rfl) (fun _ _ _ h => h) (Or.inl ⟨by kernel_rfl, ?hq29⟩) (by assumption) ?_
  case hq29 => 
    intro w hSw
    have HQ := Lib.hid (HP66.out.next hSw)
    have t0 := HQ.out.cell 0
    have t1 := HQ.out.cell 1
    have t2 := HQ.out.cell 2
    have t3 := HQ.out.cell 3
    have t4 := HQ.out.cell 4
    have t5 := HQ.out.cell 5
    have t6 := HQ.out.cell 6
    have t7 := HQ.out.cell 7
    have t8 := HQ.out.cell 8
    have tl := HQ.out.lt
    simp at t0 t1 t2 t3 t4 t5 t6 t7 t8
    go_simp
    exact ⟨rfl, rfl, rfl, rfl, rfl, rfl, rfl, rfl, rfl⟩
  simp only [Act.put, List.getElem_toArray]
  refine wpAnyN_one (i := 30) (by kernel_rfl) rfl (fun K hK => ?_)
  simp only [List.getElem_toArray]
  go_simp
  refine (valid_any wrongB (some ⟨g, 0, none⟩) c4 w14 HI14.out).mono ?_
  rintro e w15 ⟨rfl, hb⟩
  rw [va_wrong]
  have HK15 := Lib.hid (bNext HK14.out hb)
  refine hK _ _ (fun _ => HK15.out) ?_
  (try simp only [Act.put, List.setIfInBounds_toArray, List.set_cons_zero, List.set_cons_succ])
  clear hK hS14 hb HI14
  have hS15 := HK15.out
  refine wpAnyN_take (i := 31) (v := .bool true) rfl (by kernel_rfl) (by kernel_rfl) (by kernel_rfl) (by kernel_rfl) (fun _ _ _ h => h) (Or.inl ⟨by kernel_rfl, ?hq31⟩) (by assumption) ?_
  case hq31 => intro w hSw; go_simp
  simp only [Act.put, List.getElem_toArray, List.setIfInBounds_toArray]
  refine wpAnyN_take (i := 32) (v := .bool true) rfl (by kernel_rfl) (by kernel_rfl) (by kernel_rfl) (by kernel_rfl) (fun _ _ _ h => h) (Or.inl ⟨by kernel_rfl, ?hq32⟩) (by assumption) ?_
  case hq32 => intro w hSw; go_simp
  simp only [Act.put, List.getElem_toArray]
  refine wpAnyN_take (i := 33) (v := .bool true) rfl (by kernel_rfl) (by kernel_rfl) (by kernel_rfl) (by kernel_rfl) (fun _ _ _ h => h) (Or.inl ⟨by kernel_rfl, ?hq33⟩) (by assumption) ?_
  case hq33 => intro w hSw; go_simp
  simp only [Act.put, List.getElem_toArray]
  refine wpAnyN_take (i := 34) (v := .int .i64 2) rfl (by kernel_rfl) (by kernel_rfl) (by kernel_rfl) (by kernel_rfl) (fun _ _ _ h => h) (Or.inl ⟨by kernel_rfl, ?hq34⟩) (by assumption) ?_
  case hq34 => intro w hSw; go_simp
  simp only [Act.put, List.getElem_toArray]
  refine wpAnyN_take (i := 35) (v := .bool true) rfl (by kernel_rfl) (by kernel_rfl) (by kernel_rfl) (by kernel_rfl) (fun _ _ _ h => h) (Or.inl ⟨by kernel_rfl, ?hq35⟩) (by assumption) ?_
  case hq35 => intro w hSw; go_simp
  simp only [Act.put, List.getElem_toArray]
  refine wpAnyN_take (i := 36) (v := .bool true) rfl (by kernel_rfl) (by kernel_rfl) (by kernel_rfl) (by kernel_rfl) (fun _ _ _ h => h) (Or.inl ⟨by kernel_rfl, ?hq36⟩) (by assumption) ?_
  case hq36 => intro w hSw; go_simp
  simp only [Act.put, List.getElem_toArray]
  refine wpAnyN_take (i := 37) (v := .bool true) rfl (by kernel_rfl) (by kernel_rfl) (by kernel_rfl) (by kernel_rfl) (fun _ _ _ h => h) (Or.inl ⟨by kernel_rfl, ?hq37⟩) (by assumption) ?_
  case hq37 => intro w hSw; go_simp
  simp only [Act.put, List.getElem_toArray]
  refine wpAnyN_take (i := 38) (v := .int .i64 3) rfl (by kernel_rfl) (by kernel_rfl) (by kernel_rfl) (by kernel_rfl) (fun _ _ _ h => h) (Or.inl ⟨by kernel_rfl, ?hq38⟩) (by assumption) ?_
  case hq38 => intro w hSw; go_simp
  simp only [Act.put, List.getElem_toArray]
  refine wpAnyN_take (i := 39) (v := .bool true) rfl (by kernel_rfl) (by kernel_rfl) (by kernel_rfl) (by kernel_rfl) (fun _ _ _ h => h) (Or.inl ⟨by kernel_rfl, ?hq39⟩) (by assumption) ?_
  case hq39 => intro w hSw; go_simp
  simp only [Act.put, List.getElem_toArray]
  refine wpAnyN_take (i := 40) (v := .bool true) rfl (by kernel_rfl) (by kernel_rfl) (by kernel_rfl) (by kernel_rfl) (fun _ _ _ h => h) (Or.inl ⟨by kernel_rfl, ?hq40⟩) (by assumption) ?_
  case hq40 => intro w hSw; go_simp
  simp only [Act.put, List.getElem_toArray]
  refine wpAnyN_take (i := 41) (v := .bool true) rfl (by kernel_rfl) (by kernel_rfl) (by kernel_rfl) (by kernel_rfl) (fun _ _ _ h => h) (Or.inl ⟨by kernel_rfl, ?hq41⟩) (by assumption) ?_
  case hq41 => intro w hSw; go_simp
  simp only [Act.put, List.getElem_toArray]
  refine wpAnyN_take (i := 42) (v := (⟨12, -1, 2, 0, ⟨#[]⟩, 0⟩ : In).v) rfl (by kernel_rfl) (by kernel_rfl) (by kernel_rfl) (by kernel_rfl) (fun _ _ _ h => h) (Or.inl ⟨by kernel_rfl, ?hq42⟩) (by assumption) ?_
  case hq42 => intro w hSw; go_simp
  simp only [Act.put, List.getElem_toArray]
  clear hS15
  refine wpAnyN_pairV (i := 43) (j := 44) (Two w6 [-1]) (by kernel_rfl) (by kernel_rfl) (by kernel_rfl) (by decide) rfl rfl (fun _ _ => by kernel_rfl) (fun vi vj w' ⟨_, _, _, _, _, _, _, h⟩ => h) ?ha43 ?hb43 ?hc43
  case ha43 =>
    intro K hK
    simp only [List.getElem_toArray]
    go_simp
    refine (reads_any ⟨12, -1, 2, 0, ⟨#[]⟩, 0⟩ w15).mono ?_
    rintro e w1 ⟨v, rfl, ho⟩
    rw [rd_12] at ho
    obtain ⟨A, c, rfl, hi, hb⟩ := ret_ints ho (by decide)
    have HI := Lib.hid hi
    have HB := Lib.hid (bNext HK15.out hb)
    clear hi hb ho
    refine hK _ _ ⟨HB.out, .slice A ([-1] : List Int).length c, by kernel_rfl, fun K2 hK2 => ?_⟩
    clear hK
    simp only [Act.put, List.getElem_toArray]
    go_simp
    refine hK2 _ _ ⟨.slice (some ⟨w1.heap.size, 0, none⟩) ([-1] : List Int).length ([-1] : List Int).length, by kernel_rfl, A, c, w1.heap.size, rfl, rfl, HI.out.next (bAlloc _ _), lit_ints w1 [-1] (by decide) _ rfl, bNext HB.out (bAlloc _ _)⟩
  case hb43 =>
    intro K hK
    simp only [List.getElem_toArray]
    go_simp
    have HB := Lib.hid (bNext HK15.out (bAlloc w15 (.cells (iCs [-1]).toArray 3)))
    have HL := Lib.hid (lit_ints w15 [-1] (by decide) _ rfl)
    refine hK _ _ ⟨HB.out, .slice (some ⟨w15.heap.size, 0, none⟩) ([-1] : List Int).length ([-1] : List Int).length, by kernel_rfl, fun K2 hK2 => ?_⟩
    clear hK
    simp only [Act.put, List.getElem_toArray]
    go_simp
    refine (reads_any ⟨12, -1, 2, 0, ⟨#[]⟩, 0⟩ _).mono ?_
    rintro e w1 ⟨v, rfl, ho⟩
    rw [rd_12] at ho
    obtain ⟨A, c, rfl, hi, hb⟩ := ret_ints ho (by decide)
    refine hK2 _ _ ⟨.slice A ([-1] : List Int).length c, by kernel_rfl, A, c, w15.heap.size, rfl, rfl, hi, HL.out.next hb, bNext HB.out hb⟩
  rintro vi vj w15' ⟨A15, c15, g15, rfl, rfl, hi, hj, hb⟩
  have HI15 := Lib.hid hi
  have HJ15 := Lib.hid hj
  have HB15 := Lib.hid hb
  clear hi hj hb
  simp only [Act.put, List.getElem_toArray]
  refine wpAnyN_one (i := 45) (by kernel_rfl) rfl (fun K hK => ?_)
  simp only [List.getElem_toArray]
  go_simp
  refine (numbers_any A15 (some ⟨g15, 0, none⟩) _ _ c15 _ [-1] [-1] w15' HI15.out HJ15.out).mono ?_
  rintro e w16 ⟨rfl, hb⟩
  rw [decide_eq_true (rfl : ([-1] : List Int) = [-1])]
  have HK16 := Lib.hid (bNext HB15.out hb)
  refine hK _ _ (fun _ => HK16.out) ?_
  (try simp only [Act.put, List.setIfInBounds_toArray, List.set_cons_zero, List.set_cons_succ])
  clear hK hb HI15 HJ15 HB15
  have hS16 := HK16.out
  refine wpAnyN_take (i := 46) (v := .bool true) rfl (by kernel_rfl) (by kernel_rfl) (by kernel_rfl) (by kernel_rfl) (fun _ _ _ h => h) (Or.inl ⟨by kernel_rfl, ?hq46⟩) (by assumption) ?_
  case hq46 => intro w hSw; go_simp
  simp only [Act.put, List.getElem_toArray, List.setIfInBounds_toArray]
  refine wpAnyN_take (i := 47) (v := .bool true) rfl (by kernel_rfl) (by kernel_rfl) (by kernel_rfl) (by kernel_rfl) (fun _ _ _ h => h) (Or.inl ⟨by kernel_rfl, ?hq47⟩) (by assumption) ?_
  case hq47 => intro w hSw; go_simp
  simp only [Act.put, List.getElem_toArray]
  refine wpAnyN_take (i := 48) (v := (⟨12, -1, 2, 0, ⟨#[]⟩, 0⟩ : In).v) rfl (by kernel_rfl) (by kernel_rfl) (by kernel_rfl) (by kernel_rfl) (fun _ _ _ h => h) (Or.inl ⟨by kernel_rfl, ?hq48⟩) (by assumption) ?_
  case hq48 => intro w hSw; go_simp
  simp only [Act.put, List.getElem_toArray]
  clear hS16
  refine wpAnyN_pairV (i := 49) (j := 50) (Two w6 [2]) (by kernel_rfl) (by kernel_rfl) (by kernel_rfl) (by decide) rfl rfl (fun _ _ => by kernel_rfl) (fun vi vj w' ⟨_, _, _, _, _, _, _, h⟩ => h) ?ha49 ?hb49 ?hc49
  case ha49 =>
    intro K hK
    simp only [List.getElem_toArray]
    go_simp
    refine (writes_any ⟨12, -1, 2, 0, ⟨#[]⟩, 0⟩ w16).mono ?_
    rintro e w1 ⟨v, rfl, ho⟩
    rw [wr_12] at ho
    obtain ⟨A, c, rfl, hi, hb⟩ := ret_ints ho (by decide)
    have HI := Lib.hid hi
    have HB := Lib.hid (bNext HK16.out hb)
    clear hi hb ho
    refine hK _ _ ⟨HB.out, .slice A ([2] : List Int).length c, by kernel_rfl, fun K2 hK2 => ?_⟩
    clear hK
    simp only [Act.put, List.getElem_toArray]
    go_simp
    refine hK2 _ _ ⟨.slice (some ⟨w1.heap.size, 0, none⟩) ([2] : List Int).length ([2] : List Int).length, by kernel_rfl, A, c, w1.heap.size, rfl, rfl, HI.out.next (bAlloc _ _), lit_ints w1 [2] (by decide) _ rfl, bNext HB.out (bAlloc _ _)⟩
  case hb49 =>
    intro K hK
    simp only [List.getElem_toArray]
    go_simp
    have HB := Lib.hid (bNext HK16.out (bAlloc w16 (.cells (iCs [2]).toArray 3)))
    have HL := Lib.hid (lit_ints w16 [2] (by decide) _ rfl)
    refine hK _ _ ⟨HB.out, .slice (some ⟨w16.heap.size, 0, none⟩) ([2] : List Int).length ([2] : List Int).length, by kernel_rfl, fun K2 hK2 => ?_⟩
    clear hK
    simp only [Act.put, List.getElem_toArray]
    go_simp
    refine (writes_any ⟨12, -1, 2, 0, ⟨#[]⟩, 0⟩ _).mono ?_
    rintro e w1 ⟨v, rfl, ho⟩
    rw [wr_12] at ho
    obtain ⟨A, c, rfl, hi, hb⟩ := ret_ints ho (by decide)
    refine hK2 _ _ ⟨.slice A ([2] : List Int).length c, by kernel_rfl, A, c, w16.heap.size, rfl, rfl, hi, HL.out.next hb, bNext HB.out hb⟩
  rintro vi vj w16' ⟨A16, c16, g16, rfl, rfl, hi, hj, hb⟩
  have HI16 := Lib.hid hi
  have HJ16 := Lib.hid hj
  have HB16 := Lib.hid hb
  clear hi hj hb
  simp only [Act.put, List.getElem_toArray]
  refine wpAnyN_one (i := 51) (by kernel_rfl) rfl (fun K hK => ?_)
  simp only [List.getElem_toArray]
  go_simp
  refine (numbers_any A16 (some ⟨g16, 0, none⟩) _ _ c16 _ [2] [2] w16' HI16.out HJ16.out).mono ?_
  rintro e w17 ⟨rfl, hb⟩
  rw [decide_eq_true (rfl : ([2] : List Int) = [2])]
  have HK17 := Lib.hid (bNext HB16.out hb)
  refine hK _ _ (fun _ => HK17.out) ?_
  (try simp only [Act.put, List.setIfInBounds_toArray, List.set_cons_zero, List.set_cons_succ])
  clear hK hb HI16 HJ16 HB16
  have hS17 := HK17.out
  refine wpAnyN_take (i := 52) (v := .bool true) rfl (by kernel_rfl) (by kernel_rfl) (by kernel_rfl) (by kernel_rfl) (fun _ _ _ h => h) (Or.inl ⟨by kernel_rfl, ?hq52⟩) (by assumption) ?_
  case hq52 => intro w hSw; go_simp
  simp only [Act.put, List.getElem_toArray, List.setIfInBounds_toArray]
  refine wpAnyN_take (i := 53) (v := .bool true) rfl (by kernel_rfl) (by kernel_rfl) (by kernel_rfl) (by kernel_rfl) (fun _ _ _ h => h) (Or.inl ⟨by kernel_rfl, ?hq53⟩) (by assumption) ?_
  case hq53 => intro w hSw; go_simp
  simp only [Act.put, List.getElem_toArray]
  refine wpAnyN_take (i := 54) (v := (⟨19, 0, 0, 7, ⟨#[]⟩, 2⟩ : In).v) rfl (by kernel_rfl) (by kernel_rfl) (by kernel_rfl) (by kernel_rfl) (fun _ _ _ h => h) (Or.inl ⟨by kernel_rfl, ?hq54⟩) (by assumption) ?_
  case hq54 => intro w hSw; go_simp
  simp only [Act.put, List.getElem_toArray]
  clear hS17
  refine wpAnyN_pairV (i := 55) (j := 56) (Two w6 [1, 2]) (by kernel_rfl) (by kernel_rfl) (by kernel_rfl) (by decide) rfl rfl (fun _ _ => by kernel_rfl) (fun vi vj w' ⟨_, _, _, _, _, _, _, h⟩ => h) ?ha55 ?hb55 ?hc55
  case ha55 =>
    intro K hK
    simp only [List.getElem_toArray]
    go_simp
    refine (reads_any ⟨19, 0, 0, 7, ⟨#[]⟩, 2⟩ w17).mono ?_
    rintro e w1 ⟨v, rfl, ho⟩
    rw [rd_19] at ho
    obtain ⟨A, c, rfl, hi, hb⟩ := ret_ints ho (by decide)
    have HI := Lib.hid hi
    have HB := Lib.hid (bNext HK17.out hb)
    clear hi hb ho
    refine hK _ _ ⟨HB.out, .slice A ([1, 2] : List Int).length c, by kernel_rfl, fun K2 hK2 => ?_⟩
    clear hK
    simp only [Act.put, List.getElem_toArray]
    go_simp
    refine hK2 _ _ ⟨.slice (some ⟨w1.heap.size, 0, none⟩) ([1, 2] : List Int).length ([1, 2] : List Int).length, by kernel_rfl, A, c, w1.heap.size, rfl, rfl, HI.out.next (bAlloc _ _), lit_ints w1 [1, 2] (by decide) _ rfl, bNext HB.out (bAlloc _ _)⟩
  case hb55 =>
    intro K hK
    simp only [List.getElem_toArray]
    go_simp
    have HB := Lib.hid (bNext HK17.out (bAlloc w17 (.cells (iCs [1, 2]).toArray 3)))
    have HL := Lib.hid (lit_ints w17 [1, 2] (by decide) _ rfl)
    refine hK _ _ ⟨HB.out, .slice (some ⟨w17.heap.size, 0, none⟩) ([1, 2] : List Int).length ([1, 2] : List Int).length, by kernel_rfl, fun K2 hK2 => ?_⟩
    clear hK
    simp only [Act.put, List.getElem_toArray]
    go_simp
    refine (reads_any ⟨19, 0, 0, 7, ⟨#[]⟩, 2⟩ _).mono ?_
    rintro e w1 ⟨v, rfl, ho⟩
    rw [rd_19] at ho
    obtain ⟨A, c, rfl, hi, hb⟩ := ret_ints ho (by decide)
    refine hK2 _ _ ⟨.slice A ([1, 2] : List Int).length c, by kernel_rfl, A, c, w17.heap.size, rfl, rfl, hi, HL.out.next hb, bNext HB.out hb⟩
  rintro vi vj w17' ⟨A17, c17, g17, rfl, rfl, hi, hj, hb⟩
  have HI17 := Lib.hid hi
  have HJ17 := Lib.hid hj
  have HB17 := Lib.hid hb
  clear hi hj hb
  simp only [Act.put, List.getElem_toArray]
  refine wpAnyN_one (i := 57) (by kernel_rfl) rfl (fun K hK => ?_)
  simp only [List.getElem_toArray]
  go_simp
  refine (numbers_any A17 (some ⟨g17, 0, none⟩) _ _ c17 _ [1, 2] [1, 2] w17' HI17.out HJ17.out).mono ?_
  rintro e w18 ⟨rfl, hb⟩
  rw [decide_eq_true (rfl : ([1, 2] : List Int) = [1, 2])]
  have HK18 := Lib.hid (bNext HB17.out hb)
  refine hK _ _ (fun _ => HK18.out) ?_
  (try simp only [Act.put, List.setIfInBounds_toArray, List.set_cons_zero, List.set_cons_succ])
  clear hK hb HI17 HJ17 HB17
  have hS18 := HK18.out
  refine wpAnyN_take (i := 58) (v := .bool true) rfl (by kernel_rfl) (by kernel_rfl) (by kernel_rfl) (by kernel_rfl) (fun _ _ _ h => h) (Or.inl ⟨by kernel_rfl, ?hq58⟩) (by assumption) ?_
  case hq58 => intro w hSw; go_simp
  simp only [Act.put, List.getElem_toArray, List.setIfInBounds_toArray]
  refine wpAnyN_take (i := 59) (v := .bool true) rfl (by kernel_rfl) (by kernel_rfl) (by kernel_rfl) (by kernel_rfl) (fun _ _ _ h => h) (Or.inl ⟨by kernel_rfl, ?hq59⟩) (by assumption) ?_
  case hq59 => intro w hSw; go_simp
  simp only [Act.put, List.getElem_toArray]
  refine wpAnyN_take (i := 60) (v := (⟨11, 1, 1, 0, ⟨#[]⟩, 0⟩ : In).v) rfl (by kernel_rfl) (by kernel_rfl) (by kernel_rfl) (by kernel_rfl) (fun _ _ _ h => h) (Or.inl ⟨by kernel_rfl, ?hq60⟩) (by assumption) ?_
  case hq60 => intro w hSw; go_simp
  simp only [Act.put, List.getElem_toArray]
  clear hS18
  refine wpAnyN_pairV (i := 61) (j := 62) (Two w6 [1]) (by kernel_rfl) (by kernel_rfl) (by kernel_rfl) (by decide) rfl rfl (fun _ _ => by kernel_rfl) (fun vi vj w' ⟨_, _, _, _, _, _, _, h⟩ => h) ?ha61 ?hb61 ?hc61
  case ha61 =>
    intro K hK
    simp only [List.getElem_toArray]
    go_simp
    refine (writes_any ⟨11, 1, 1, 0, ⟨#[]⟩, 0⟩ w18).mono ?_
    rintro e w1 ⟨v, rfl, ho⟩
    rw [wr_11] at ho
    obtain ⟨A, c, rfl, hi, hb⟩ := ret_ints ho (by decide)
    have HI := Lib.hid hi
    have HB := Lib.hid (bNext HK18.out hb)
    clear hi hb ho
    refine hK _ _ ⟨HB.out, .slice A ([1] : List Int).length c, by kernel_rfl, fun K2 hK2 => ?_⟩
    clear hK
    simp only [Act.put, List.getElem_toArray]
    go_simp
    refine hK2 _ _ ⟨.slice (some ⟨w1.heap.size, 0, none⟩) ([1] : List Int).length ([1] : List Int).length, by kernel_rfl, A, c, w1.heap.size, rfl, rfl, HI.out.next (bAlloc _ _), lit_ints w1 [1] (by decide) _ rfl, bNext HB.out (bAlloc _ _)⟩
  case hb61 =>
    intro K hK
    simp only [List.getElem_toArray]
    go_simp
    have HB := Lib.hid (bNext HK18.out (bAlloc w18 (.cells (iCs [1]).toArray 3)))
    have HL := Lib.hid (lit_ints w18 [1] (by decide) _ rfl)
    refine hK _ _ ⟨HB.out, .slice (some ⟨w18.heap.size, 0, none⟩) ([1] : List Int).length ([1] : List Int).length, by kernel_rfl, fun K2 hK2 => ?_⟩
    clear hK
    simp only [Act.put, List.getElem_toArray]
    go_simp
    refine (writes_any ⟨11, 1, 1, 0, ⟨#[]⟩, 0⟩ _).mono ?_
    rintro e w1 ⟨v, rfl, ho⟩
    rw [wr_11] at ho
    obtain ⟨A, c, rfl, hi, hb⟩ := ret_ints ho (by decide)
    refine hK2 _ _ ⟨.slice A ([1] : List Int).length c, by kernel_rfl, A, c, w18.heap.size, rfl, rfl, hi, HL.out.next hb, bNext HB.out hb⟩
  rintro vi vj w18' ⟨A18, c18, g18, rfl, rfl, hi, hj, hb⟩
  have HI18 := Lib.hid hi
  have HJ18 := Lib.hid hj
  have HB18 := Lib.hid hb
  clear hi hj hb
  simp only [Act.put, List.getElem_toArray]
  refine wpAnyN_one (i := 63) (by kernel_rfl) rfl (fun K hK => ?_)
  simp only [List.getElem_toArray]
  go_simp
  refine (numbers_any A18 (some ⟨g18, 0, none⟩) _ _ c18 _ [1] [1] w18' HI18.out HJ18.out).mono ?_
  rintro e w19 ⟨rfl, hb⟩
  rw [decide_eq_true (rfl : ([1] : List Int) = [1])]
  have HK19 := Lib.hid (bNext HB18.out hb)
  refine hK _ _ (fun _ => HK19.out) ?_
  (try simp only [Act.put, List.setIfInBounds_toArray, List.set_cons_zero, List.set_cons_succ])
  clear hK hb HI18 HJ18 HB18
  have hS19 := HK19.out
  refine wpAnyN_take (i := 64) (v := .bool true) rfl (by kernel_rfl) (by kernel_rfl) (by kernel_rfl) (by kernel_rfl) (fun _ _ _ h => h) (Or.inl ⟨by kernel_rfl, ?hq64⟩) (by assumption) ?_
  case hq64 => intro w hSw; go_simp
  simp only [Act.put, List.getElem_toArray, List.setIfInBounds_toArray]
  refine wpAnyN_take (i := 65) (v := .bool true) rfl (by kernel_rfl) (by kernel_rfl) (by kernel_rfl) (by kernel_rfl) (fun _ _ _ h => h) (Or.inl ⟨by kernel_rfl, ?hq65⟩) (by assumption) ?_
  case hq65 => intro w hSw; go_simp
  simp only [Act.put, List.getElem_toArray]
  refine wpAnyN_done (by kernel_rfl) ?_ _
  have HE19 := Lib.hid (show Below w.heap.size w w19 from bNext HK6.out HK19.out)
  go_wp2_with fail
  go_ret
  exact ⟨rfl, HE19.out⟩
end Go.Proofs.YtbipeakinmbdiaaGreatDoor
