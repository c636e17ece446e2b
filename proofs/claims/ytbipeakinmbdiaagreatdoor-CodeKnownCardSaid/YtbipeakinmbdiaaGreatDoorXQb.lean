/-
  Memory: the blocks of a function's variables; literals; walk (part): CodeKnown.
-/
import Derived.Test.YtbipeakinmbdiaaGreatDoorXQa
import Derived.Test.YtbipeakinmbdiaaGreatDoorXQm
import Derived.Test.YtbipeakinmbdiaaGreatDoorXQt
import Derived.Test.YtbipeakinmbdiaaGreatDoorKv
import Derived.Test.YtbipeakinmbdiaaGreatDoorXLg
import Derived.Deep.CutBlock
import Derived.Test.YtbipeakinmbdiaaGreatDoorXLp
import Derived.Test.YtbipeakinmbdiaaGreatDoorKu
namespace Go.Proofs.YtbipeakinmbdiaaGreatDoor
open Go.RowKit

/-- a variable that holds a block whose code lies somewhere -/
def Var (w : World) (x : Nat × Bk × Option Addr × Nat) : Prop := Blk w x.1 28 (bkC x.2.1 x.2.2.1 x.2.1.code.length x.2.2.2) ∧ InsAt w w.heap.size x.2.2.1 x.2.1.code.length x.2.1.code
def Vs (w : World) (l : List (Nat × Bk × Option Addr × Nat)) : Prop := ∀ x ∈ l, Var w x
theorem Vs.nil (w : World) : Vs w [] := fun _ h => by cases h
theorem Vs.next {w w2 : World} {l : List (Nat × Bk × Option Addr × Nat)} (h : Vs w l) (hb : Below w.heap.size w w2) : Vs w2 l := fun x hx => ⟨(h x hx).1.next hb, (h x hx).2.next hb⟩
theorem Vs.cons {w : World} {l : List (Nat × Bk × Option Addr × Nat)} {p c : Nat} {b : Bk} {A : Option Addr} (h : Vs w l) (hb : Blk w p 28 (bkC b A b.code.length c)) (hi : InsAt w w.heap.size A b.code.length b.code) : Vs w ((p, b, A, c) :: l) := fun x hx => by
  rw [List.mem_cons] at hx
  rcases hx with rfl | hx
  · exact ⟨hb, hi⟩
  · exact h x hx
theorem own_six {w : World} {base g c : Nat} {n : Nat} {l : List Value} (h : w.ownsRow base 34 6 (.slice (some ⟨g, 0, none⟩) n c) n l) (o : Nat) (v0 v1 v2 v3 v4 v5 : Value) :
    ((((((w.setCell ⟨g, o, none⟩ v0).setCell ⟨g, o + 1, none⟩ v1).setCell ⟨g, o + 2, none⟩ v2).setCell ⟨g, o + 3, none⟩ v3).setCell ⟨g, o + 4, none⟩ v4).setCell ⟨g, o + 5, none⟩ v5).ownsRow base 34 6 (.slice (some ⟨g, 0, none⟩) n c) n ((((((l.set o v0).set (o + 1) v1).set (o + 2) v2).set (o + 3) v3).set (o + 4) v4).set (o + 5) v5) :=
  own_setAt (own_setAt (own_setAt (own_setAt (own_setAt (own_setAt h v0) v1) v2) v3) v4) v5
theorem below_six {w0 w : World} {B g : Nat} (h : Below B w0 w) (hg : B ≤ g) (o : Nat) (v0 v1 v2 v3 v4 v5 : Value) :
    Below B w0 ((((((w.setCell ⟨g, o, none⟩ v0).setCell ⟨g, o + 1, none⟩ v1).setCell ⟨g, o + 2, none⟩ v2).setCell ⟨g, o + 3, none⟩ v3).setCell ⟨g, o + 4, none⟩ v4).setCell ⟨g, o + 5, none⟩ v5) :=
  (((((h.setCell hg _).setCell hg _).setCell hg _).setCell hg _).setCell hg _).setCell hg _
theorem blk_six {w : World} {p g t : Nat} {cs : Array Value} (h : Blk w p t cs) (hg : p ≠ g) (o : Nat) (v0 v1 v2 v3 v4 v5 : Value) :
    Blk ((((((w.setCell ⟨g, o, none⟩ v0).setCell ⟨g, o + 1, none⟩ v1).setCell ⟨g, o + 2, none⟩ v2).setCell ⟨g, o + 3, none⟩ v3).setCell ⟨g, o + 4, none⟩ v4).setCell ⟨g, o + 5, none⟩ v5) p t cs :=
  (((((h.far hg _).far hg _).far hg _).far hg _).far hg _).far hg _
/-- a literal of instructions -/
theorem lit_code (w : World) (l : List In) (h : l.length ≤ 1000) {q : Nat} (hq : w.heap.size = q) : InsAt (w.alloc (.cells (aCs l).toArray 34)) (w.alloc (.cells (aCs l).toArray 34)).heap.size (some ⟨q, 0, none⟩) l.length l := by
  subst hq
  have h1 := World.ownsRow_lit (base := w.heap.size) (e := 34) (size := 6) w (aCs l).toArray l.length (Nat.le_refl _) (by unfold maxLen; omega) (by simp [aCs_len])
  exact own_ins' (l := l) h1 (by omega)
set_option maxRecDepth 100000 in
set_option maxHeartbeats 8000000 in
theorem law_known (w : World) (hE : Env w) : Calls Tryz.prog 4 #[] w fun e w' => e = .returned (.bool true) ∧ Below w.heap.size w w' := by
  have HE := Lib.hid hE
  have HVw := Lib.hid (Vs.nil w)
  have HKw := Lib.hid (Below.refl w.heap.size w)
  clear hE
  go_enter Tryz.func4, Tryz.ntmps4
  go_wp2_with fail
  refine (rule_any w).mono ?_
  rintro e w11 ⟨A, c1, rfl, ho, hb⟩
  obtain ⟨g1, cap, hv⟩ := own_some2 ho (by decide)
  injection hv with h1 h2 h3
  subst h1
  clear h2 h3
  have KG1 := Lib.hid (own_lt ho (g := g1) rfl)
  have KO1 := Lib.hid ho
  have KB1 := Lib.hid hb
  clear ho hb
  go_upto_region 2 with fail
  obtain ⟨w21, hw2⟩ : ∃ X, Hid (X = w11.alloc (.cells (bkC ruleB (some ⟨g1, 0, none⟩) ruleB.code.length c1) 28)) := ⟨_, rfl⟩
  obtain ⟨p1, hp⟩ : ∃ X, Hid (X = w11.heap.size) := ⟨_, rfl⟩
  rw [show w11.alloc (.cells (bkC ruleB (some ⟨g1, 0, none⟩) ruleB.code.length c1) 28) = w21 from hw2.out.symm, ← hp.out]
  have HP2 := Lib.hid (show Blk w21 p1 28 (bkC ruleB (some ⟨g1, 0, none⟩) ruleB.code.length c1) by rw [hw2.out, hp.out]; exact Blk.new _ _ _)
  have HO2 := Lib.hid (show w21.ownsRow w.heap.size 34 6 (.slice (some ⟨g1, 0, none⟩) 6 c1) 6 (aCs ruleB.code) by rw [hw2.out]; exact own_next KO1.out (bAlloc _ _))
  have HB2 := Lib.hid (show Below w.heap.size w w21 by rw [hw2.out]; exact bNext KB1.out (bAlloc _ _))
  have HNE := Lib.hid (show p1 ≠ g1 by have := KG1.out.2; rw [hp.out]; omega)
  have t8 := HP2.out.cell 8
  have tl := HP2.out.lt
  simp at t8
  have k0 : w21.cell? ⟨g1, 24, none⟩ = some _ := (HO2.out.cellAt (g := g1) 24 (by decide)).trans rfl
  have k1 : w21.cell? ⟨g1, 24 + 1, none⟩ = some _ := (HO2.out.cellAt (g := g1) (24 + 1) (by decide)).trans rfl
  have k2 : w21.cell? ⟨g1, 24 + 2, none⟩ = some _ := (HO2.out.cellAt (g := g1) (24 + 2) (by decide)).trans rfl
  have k3 : w21.cell? ⟨g1, 24 + 3, none⟩ = some _ := (HO2.out.cellAt (g := g1) (24 + 3) (by decide)).trans rfl
  have k4 : w21.cell? ⟨g1, 24 + 4, none⟩ = some _ := (HO2.out.cellAt (g := g1) (24 + 4) (by decide)).trans rfl
  have k5 : w21.cell? ⟨g1, 24 + 5, none⟩ = some _ := (HO2.out.cellAt (g := g1) (24 + 5) (by decide)).trans rfl
  obtain ⟨cs, hcs⟩ := own_ty HO2.out (g := g1) rfl
  have f0 := frozen_of_row w21 g1 24 cs 34 hcs
  have f1 := frozen_of_row w21 g1 (24 + 1) cs 34 hcs
  have f2 := frozen_of_row w21 g1 (24 + 2) cs 34 hcs
  have f3 := frozen_of_row w21 g1 (24 + 3) cs 34 hcs
  have f4 := frozen_of_row w21 g1 (24 + 4) cs 34 hcs
  have f5 := frozen_of_row w21 g1 (24 + 5) cs 34 hcs
  have gl : g1 < w21.heap.size := (Array.getElem?_eq_some_iff.1 hcs).1
  have n6 : ruleB.code.length = 6 := rfl
  rw [n6] at t8
  simp only [Nat.reduceAdd] at k0 k1 k2 k3 k4 k5 f0 f1 f2 f3 f4 f5
  clear hcs
  go_upto_region 3 with fail
  obtain ⟨wa, hV⟩ : ∃ X, Hid (X = (((((w21.setCell ⟨g1, 24, none⟩ (.int .i64 21)).setCell ⟨g1, 24 + 1, none⟩ (.int .i64 0)).setCell ⟨g1, 24 + 2, none⟩ (.int .i64 0)).setCell ⟨g1, 24 + 3, none⟩ (.int .i64 0)).setCell ⟨g1, 24 + 4, none⟩ (.string ⟨#[]⟩)).setCell ⟨g1, 24 + 5, none⟩ (.int .i64 0)) := ⟨_, rfl⟩
  rw [show (((((w21.setCell ⟨g1, 24, none⟩ (.int .i64 21)).setCell ⟨g1, 24 + 1, none⟩ (.int .i64 0)).setCell ⟨g1, 24 + 2, none⟩ (.int .i64 0)).setCell ⟨g1, 24 + 3, none⟩ (.int .i64 0)).setCell ⟨g1, 24 + 4, none⟩ (.string ⟨#[]⟩)).setCell ⟨g1, 24 + 5, none⟩ (.int .i64 0) = wa from hV.out.symm]
  have HB3 := Lib.hid (show Below w.heap.size w wa by rw [hV.out]; exact below_six HB2.out KG1.out.1 _ _ _ _ _ _ _)
  have HVwa := Lib.hid (show Vs wa ((p1, proceedB, some ⟨g1, 0, none⟩, c1) :: []) from (HVw.out.next HB3.out).cons (by rw [hV.out]; exact blk_six HP2.out HNE.out _ _ _ _ _ _ _) (by
    have h1 : wa.ownsRow w.heap.size 34 6 (.slice (some ⟨g1, 0, none⟩) 6 c1) 6 (aCs (proceedB).code) := by rw [hV.out]; exact own_six HO2.out _ _ _ _ _ _ _
    exact own_ins' h1 (by decide)))
  have HKwa := Lib.hid (show Below w.heap.size w wa from bNext HKw.out HB3.out)
  clear hV HB3 HB2 HP2 HO2 HNE hw2 hp t8 tl k0 k1 k2 k3 k4 k5 f0 f1 f2 f3 f4 f5 gl n6 KG1 KO1 KB1 HVw HKw
  go_upto_region 4 with fail
  obtain ⟨wb, hV⟩ : ∃ X, Hid (X = (wa.alloc (.cells #[.int .i64 15, .int .i64 2, .int .i64 0, .int .i64 0, .string ⟨#[102]⟩, .int .i64 2, .int .i64 7, .int .i64 1, .int .i64 0, .int .i64 0, .string ⟨#[]⟩, .int .i64 0, .int .i64 21, .int .i64 0, .int .i64 0, .int .i64 0, .string ⟨#[]⟩, .int .i64 0] 34)).alloc (.cells #[.int .i64 1, .string ⟨#[112]⟩, .int .i64 1, .int .i64 0, .int .i64 0, .int .i64 0, .string ⟨#[]⟩, .int .i64 0, .slice (some ⟨wa.heap.size, 0, none⟩) 3 3] 28)) := ⟨_, rfl⟩
  obtain ⟨q2, hq⟩ : ∃ X, Hid (X = wa.heap.size) := ⟨_, rfl⟩
  obtain ⟨p2, hp⟩ : ∃ X, Hid (X = wa.heap.size + 1) := ⟨_, rfl⟩
  rw [← hV.out, ← hp.out]
  have HB3 := Lib.hid (show Below wa.heap.size wa wb by rw [hV.out]; exact (bAlloc _ _).alloc (by simp) _)
  have HVwb := Lib.hid (show Vs wb ((p2, missingB, some ⟨q2, 0, none⟩, 3) :: [(p1, proceedB, some ⟨g1, 0, none⟩, c1)]) from (HVwa.out.next HB3.out).cons (by
      have h := Blk.new (wa.alloc (.cells (aCs (missingB).code).toArray 34)) 28 (bkC missingB (some ⟨wa.heap.size, 0, none⟩) 3 3)
      rw [World.size_alloc] at h
      rw [hV.out, hq.out, hp.out]
      exact h) (by
      have h := (lit_code wa (missingB).code (by decide) rfl).next (show Below _ _ _ from bAlloc (wa.alloc (.cells (aCs (missingB).code).toArray 34)) (.cells (bkC missingB (some ⟨wa.heap.size, 0, none⟩) 3 3) 28))
      rw [hV.out, hq.out]
      exact h))
  have HKwb := Lib.hid (show Below w.heap.size w wb from bNext HKwa.out HB3.out)
  clear hV hq hp HB3 HVwa HKwa
  have hx := HVwb.out _ (List.Mem.head _)
  have s0 := hx.1.cell 0
  have s1 := hx.1.cell 1
  have s2 := hx.1.cell 2
  have s3 := hx.1.cell 3
  have s4 := hx.1.cell 4
  have s5 := hx.1.cell 5
  have s6 := hx.1.cell 6
  have s7 := hx.1.cell 7
  have s8 := hx.1.cell 8
  have sl := hx.1.lt
  simp at s0 s1 s2 s3 s4 s5 s6 s7 s8
  go_wp2_with fail
  refine (clone_any missingB (some ⟨q2, 0, none⟩) 3 wb hx.2 ⟨by decide, fun h => by cases h⟩ (by decide)).mono ?_
  rintro e w13 ⟨A, c3, rfl, ho, hb⟩
  obtain ⟨g3, cap, hv⟩ := own_some2 ho (by decide)
  injection hv with h1 h2 h3
  subst h1
  clear h2 h3
  have KO3 := Lib.hid ho
  have KG3 := Lib.hid (own_lt ho (g := g3) rfl)
  have KB3 := Lib.hid hb
  clear s0 s1 s2 s3 s4 s5 s6 s7 s8 sl
  clear ho hb hx
  go_upto_region 5 with fail
  obtain ⟨w23, hw2⟩ : ∃ X, Hid (X = w13.alloc (.cells (bkC missingB (some ⟨g3, 0, none⟩) (missingB).code.length c3) 28)) := ⟨_, rfl⟩
  obtain ⟨p3, hp⟩ : ∃ X, Hid (X = w13.heap.size) := ⟨_, rfl⟩
  rw [show w13.alloc (.cells (bkC missingB (some ⟨g3, 0, none⟩) (missingB).code.length c3) 28) = w23 from hw2.out.symm, ← hp.out]
  have HP2 := Lib.hid (show Blk w23 p3 28 (bkC missingB (some ⟨g3, 0, none⟩) (missingB).code.length c3) by rw [hw2.out, hp.out]; exact Blk.new _ _ _)
  have HO2 := Lib.hid (show w23.ownsRow wb.heap.size 34 6 (.slice (some ⟨g3, 0, none⟩) 3 c3) 3 (aCs (missingB).code) by rw [hw2.out]; exact own_next KO3.out (bAlloc _ _))
  have HB2 := Lib.hid (show Below wb.heap.size wb w23 by rw [hw2.out]; exact bNext KB3.out (bAlloc _ _))
  have HNE := Lib.hid (show p3 ≠ g3 ∧ wb.heap.size ≤ p3 by have h1 := KG3.out.2; have h2 := KB3.out.size; rw [hp.out]; omega)
  have t8 := HP2.out.cell 8
  have tl := HP2.out.lt
  simp at t8
  rw [show (missingB).code.length = 3 from rfl] at t8
  have f8 := HP2.out.frozen 8
  go_upto_region 6 with fail
  obtain ⟨wc, hV⟩ : ∃ X, Hid (X = (w23.setCell ⟨p3, 8, none⟩ (.slice (some ⟨w23.heap.size, 0, none⟩) 3 3)).alloc (.cells #[.int .i64 15, .int .i64 2, .int .i64 0, .int .i64 0, .string ⟨#[102]⟩, .int .i64 2, .int .i64 10, .int .i64 0, .int .i64 0, .int .i64 2, .string ⟨#[]⟩, .int .i64 0, .int .i64 21, .int .i64 0, .int .i64 0, .int .i64 0, .string ⟨#[]⟩, .int .i64 0] 34)) := ⟨_, rfl⟩
  obtain ⟨q3, hq⟩ : ∃ X, Hid (X = w23.heap.size) := ⟨_, rfl⟩
  rw [← hV.out]
  have HB3 := Lib.hid (show Below wb.heap.size wb wc by rw [hV.out]; exact bNext (HB2.out.setCell HNE.out.2 _) (bAlloc _ _))
  have HVwc := Lib.hid (show Vs wc ((p3, voidB, some ⟨q3, 0, none⟩, 3) :: [(p2, missingB, some ⟨q2, 0, none⟩, 3), (p1, proceedB, some ⟨g1, 0, none⟩, c1)]) from (HVwb.out.next HB3.out).cons (by
      rw [hV.out, hq.out]
      exact (HP2.out.set_ 8 _).alloc _) (by
      have h := lit_code (w23.setCell ⟨p3, 8, none⟩ (.slice (some ⟨w23.heap.size, 0, none⟩) 3 3)) (voidB).code (by decide) (q := w23.heap.size) (by simp)
      rw [hV.out, hq.out]
      exact h))
  have HKwc := Lib.hid (show Below w.heap.size w wc from bNext HKwb.out HB3.out)
  clear hV hq HB3 HB2 HP2 HO2 HNE hw2 hp t8 tl f8 KG3 KO3 KB3 HVwb HKwb
  have hx := HVwc.out _ (List.Mem.head _)
  have s0 := hx.1.cell 0
  have s1 := hx.1.cell 1
  have s2 := hx.1.cell 2
  have s3 := hx.1.cell 3
  have s4 := hx.1.cell 4
  have s5 := hx.1.cell 5
  have s6 := hx.1.cell 6
  have s7 := hx.1.cell 7
  have s8 := hx.1.cell 8
  have sl := hx.1.lt
  simp at s0 s1 s2 s3 s4 s5 s6 s7 s8
  go_wp2_with fail
  refine (clone_any voidB (some ⟨q3, 0, none⟩) 3 wc hx.2 ⟨by decide, fun h => by cases h⟩ (by decide)).mono ?_
  rintro e w14 ⟨A, c4, rfl, ho, hb⟩
  obtain ⟨g4, cap, hv⟩ := own_some2 ho (by decide)
  injection hv with h1 h2 h3
  subst h1
  clear h2 h3
  have KO4 := Lib.hid ho
  have KG4 := Lib.hid (own_lt ho (g := g4) rfl)
  have KB4 := Lib.hid hb
  clear s0 s1 s2 s3 s4 s5 s6 s7 s8 sl
  clear ho hb hx
  go_upto_region 7 with fail
  obtain ⟨w24, hw2⟩ : ∃ X, Hid (X = w14.alloc (.cells (bkC voidB (some ⟨g4, 0, none⟩) (voidB).code.length c4) 28)) := ⟨_, rfl⟩
  obtain ⟨p4, hp⟩ : ∃ X, Hid (X = w14.heap.size) := ⟨_, rfl⟩
  rw [show w14.alloc (.cells (bkC voidB (some ⟨g4, 0, none⟩) (voidB).code.length c4) 28) = w24 from hw2.out.symm, ← hp.out]
  have HP2 := Lib.hid (show Blk w24 p4 28 (bkC voidB (some ⟨g4, 0, none⟩) (voidB).code.length c4) by rw [hw2.out, hp.out]; exact Blk.new _ _ _)
  have HO2 := Lib.hid (show w24.ownsRow wc.heap.size 34 6 (.slice (some ⟨g4, 0, none⟩) 3 c4) 3 (aCs (voidB).code) by rw [hw2.out]; exact own_next KO4.out (bAlloc _ _))
  have HB2 := Lib.hid (show Below wc.heap.size wc w24 by rw [hw2.out]; exact bNext KB4.out (bAlloc _ _))
  have HNE := Lib.hid (show p4 ≠ g4 ∧ wc.heap.size ≤ p4 by have h1 := KG4.out.2; have h2 := KB4.out.size; rw [hp.out]; omega)
  have t8 := HP2.out.cell 8
  have tl := HP2.out.lt
  simp at t8
  rw [show (voidB).code.length = 3 from rfl] at t8
  have k0 : w24.cell? ⟨g4, 9, none⟩ = some _ := (HO2.out.cellAt (g := g4) 9 (by decide)).trans rfl
  obtain ⟨cs, hcs⟩ := own_ty HO2.out (g := g4) rfl
  have f0 := frozen_of_row w24 g4 9 cs 34 hcs
  have gl : g4 < w24.heap.size := (Array.getElem?_eq_some_iff.1 hcs).1
  clear hcs
  go_upto_region 8 with fail
  obtain ⟨wd, hV⟩ : ∃ X, Hid (X = w24.setCell ⟨g4, 9, none⟩ (.int .i64 3)) := ⟨_, rfl⟩
  rw [← hV.out]
  have HB3 := Lib.hid (show Below wc.heap.size wc wd by rw [hV.out]; exact HB2.out.setCell KG4.out.1 _)
  have HVwd := Lib.hid (show Vs wd ((p4, overB, some ⟨g4, 0, none⟩, c4) :: [(p3, voidB, some ⟨q3, 0, none⟩, 3), (p2, missingB, some ⟨q2, 0, none⟩, 3), (p1, proceedB, some ⟨g1, 0, none⟩, c1)]) from (HVwc.out.next HB3.out).cons (by rw [hV.out]; exact HP2.out.far HNE.out.1 _) (by
      have h1 : wd.ownsRow wc.heap.size 34 6 (.slice (some ⟨g4, 0, none⟩) 3 c4) 3 (aCs (overB).code) := by rw [hV.out]; exact own_setAt HO2.out _
      exact own_ins' h1 (by decide)))
  have HKwd := Lib.hid (show Below w.heap.size w wd from bNext HKwc.out HB3.out)
  clear hV HB3 HB2 HP2 HO2 HNE hw2 hp t8 tl k0 f0 gl KG4 KO4 KB4 HVwc HKwc
  have hx := HVwd.out _ (List.Mem.tail _ (List.Mem.tail _ (List.Mem.head _)))
  have s0 := hx.1.cell 0
  have s1 := hx.1.cell 1
  have s2 := hx.1.cell 2
  have s3 := hx.1.cell 3
  have s4 := hx.1.cell 4
  have s5 := hx.1.cell 5
  have s6 := hx.1.cell 6
  have s7 := hx.1.cell 7
  have s8 := hx.1.cell 8
  have sl := hx.1.lt
  simp at s0 s1 s2 s3 s4 s5 s6 s7 s8
  go_wp2_with fail
  refine (clone_any missingB (some ⟨q2, 0, none⟩) 3 wd hx.2 ⟨by decide, fun h => by cases h⟩ (by decide)).mono ?_
  rintro e w15 ⟨A, c5, rfl, ho, hb⟩
  obtain ⟨g5, cap, hv⟩ := own_some2 ho (by decide)
  injection hv with h1 h2 h3
  subst h1
  clear h2 h3
  have KO5 := Lib.hid ho
  have KG5 := Lib.hid (own_lt ho (g := g5) rfl)
  have KB5 := Lib.hid hb
  clear s0 s1 s2 s3 s4 s5 s6 s7 s8 sl
  clear ho hb hx
  go_upto_region 9 with fail
  obtain ⟨w25, hw2⟩ : ∃ X, Hid (X = w15.alloc (.cells (bkC missingB (some ⟨g5, 0, none⟩) (missingB).code.length c5) 28)) := ⟨_, rfl⟩
  obtain ⟨p5, hp⟩ : ∃ X, Hid (X = w15.heap.size) := ⟨_, rfl⟩
  rw [show w15.alloc (.cells (bkC missingB (some ⟨g5, 0, none⟩) (missingB).code.length c5) 28) = w25 from hw2.out.symm, ← hp.out]
  have HP2 := Lib.hid (show Blk w25 p5 28 (bkC missingB (some ⟨g5, 0, none⟩) (missingB).code.length c5) by rw [hw2.out, hp.out]; exact Blk.new _ _ _)
  have HO2 := Lib.hid (show w25.ownsRow wd.heap.size 34 6 (.slice (some ⟨g5, 0, none⟩) 3 c5) 3 (aCs (missingB).code) by rw [hw2.out]; exact own_next KO5.out (bAlloc _ _))
  have HB2 := Lib.hid (show Below wd.heap.size wd w25 by rw [hw2.out]; exact bNext KB5.out (bAlloc _ _))
  have HNE := Lib.hid (show p5 ≠ g5 ∧ wd.heap.size ≤ p5 by have h1 := KG5.out.2; have h2 := KB5.out.size; rw [hp.out]; omega)
  have t8 := HP2.out.cell 8
  have tl := HP2.out.lt
  simp at t8
  rw [show (missingB).code.length = 3 from rfl] at t8
  have f8 := HP2.out.frozen 8
  go_upto_region 10 with fail
  obtain ⟨we, hV⟩ : ∃ X, Hid (X = (w25.setCell ⟨p5, 8, none⟩ (.slice (some ⟨w25.heap.size, 0, none⟩) 3 3)).alloc (.cells #[.int .i64 15, .int .i64 2, .int .i64 0, .int .i64 0, .string ⟨#[102]⟩, .int .i64 1, .int .i64 7, .int .i64 2, .int .i64 0, .int .i64 0, .string ⟨#[]⟩, .int .i64 0, .int .i64 21, .int .i64 0, .int .i64 0, .int .i64 0, .string ⟨#[]⟩, .int .i64 0] 34)) := ⟨_, rfl⟩
  obtain ⟨q5, hq⟩ : ∃ X, Hid (X = w25.heap.size) := ⟨_, rfl⟩
  rw [← hV.out]
  have HB3 := Lib.hid (show Below wd.heap.size wd we by rw [hV.out]; exact bNext (HB2.out.setCell HNE.out.2 _) (bAlloc _ _))
  have HVwe := Lib.hid (show Vs we ((p5, selfB, some ⟨q5, 0, none⟩, 3) :: [(p4, overB, some ⟨g4, 0, none⟩, c4), (p3, voidB, some ⟨q3, 0, none⟩, 3), (p2, missingB, some ⟨q2, 0, none⟩, 3), (p1, proceedB, some ⟨g1, 0, none⟩, c1)]) from (HVwd.out.next HB3.out).cons (by
      rw [hV.out, hq.out]
      exact (HP2.out.set_ 8 _).alloc _) (by
      have h := lit_code (w25.setCell ⟨p5, 8, none⟩ (.slice (some ⟨w25.heap.size, 0, none⟩) 3 3)) (selfB).code (by decide) (q := w25.heap.size) (by simp)
      rw [hV.out, hq.out]
      exact h))
  have HKwe := Lib.hid (show Below w.heap.size w we from bNext HKwd.out HB3.out)
  clear hV hq HB3 HB2 HP2 HO2 HNE hw2 hp t8 tl f8 KG5 KO5 KB5 HVwd HKwd
  have hx := HVwe.out _ (List.Mem.tail _ (List.Mem.tail _ (List.Mem.tail _ (List.Mem.tail _ (List.Mem.head _)))))
  have s0 := hx.1.cell 0
  have s1 := hx.1.cell 1
  have s2 := hx.1.cell 2
  have s3 := hx.1.cell 3
  have s4 := hx.1.cell 4
  have s5 := hx.1.cell 5
  have s6 := hx.1.cell 6
  have s7 := hx.1.cell 7
  have s8 := hx.1.cell 8
  have sl := hx.1.lt
  simp at s0 s1 s2 s3 s4 s5 s6 s7 s8
  go_wp2_with fail
  refine (valid_any proceedB (some ⟨g1, 0, none⟩) c1 we hx.2).mono ?_
  rintro e wf ⟨rfl, hb⟩
  rw [va_proceed]
  have HVwf := Lib.hid (HVwe.out.next hb)
  have HKwf := Lib.hid (bNext HKwe.out hb)
  clear s0 s1 s2 s3 s4 s5 s6 s7 s8 sl
  clear hx hb HVwe HKwe
  have hx := HVwf.out _ (List.Mem.tail _ (List.Mem.tail _ (List.Mem.tail _ (List.Mem.head _))))
  have s0 := hx.1.cell 0
  have s1 := hx.1.cell 1
  have s2 := hx.1.cell 2
  have s3 := hx.1.cell 3
  have s4 := hx.1.cell 4
  have s5 := hx.1.cell 5
  have s6 := hx.1.cell 6
  have s7 := hx.1.cell 7
  have s8 := hx.1.cell 8
  have sl := hx.1.lt
  simp at s0 s1 s2 s3 s4 s5 s6 s7 s8
  go_wp2_with fail
  refine (valid_any missingB (some ⟨q2, 0, none⟩) 3 wf hx.2).mono ?_
  rintro e wg ⟨rfl, hb⟩
  rw [va_missing]
  have HVwg := Lib.hid (HVwf.out.next hb)
  have HKwg := Lib.hid (bNext HKwf.out hb)
  clear s0 s1 s2 s3 s4 s5 s6 s7 s8 sl
  clear hx hb HVwf HKwf
  have hx := HVwg.out _ (List.Mem.tail _ (List.Mem.tail _ (List.Mem.head _)))
  have s0 := hx.1.cell 0
  have s1 := hx.1.cell 1
  have s2 := hx.1.cell 2
  have s3 := hx.1.cell 3
  have s4 := hx.1.cell 4
  have s5 := hx.1.cell 5
  have s6 := hx.1.cell 6
  have s7 := hx.1.cell 7
  have s8 := hx.1.cell 8
  have sl := hx.1.lt
  simp at s0 s1 s2 s3 s4 s5 s6 s7 s8
  go_wp2_with fail
  refine (valid_any voidB (some ⟨q3, 0, none⟩) 3 wg hx.2).mono ?_
  rintro e wh ⟨rfl, hb⟩
  rw [va_void]
  have HVwh := Lib.hid (HVwg.out.next hb)
  have HKwh := Lib.hid (bNext HKwg.out hb)
  clear s0 s1 s2 s3 s4 s5 s6 s7 s8 sl
  clear hx hb HVwg HKwg
  have hx := HVwh.out _ (List.Mem.tail _ (List.Mem.head _))
  have s0 := hx.1.cell 0
  have s1 := hx.1.cell 1
  have s2 := hx.1.cell 2
  have s3 := hx.1.cell 3
  have s4 := hx.1.cell 4
  have s5 := hx.1.cell 5
  have s6 := hx.1.cell 6
  have s7 := hx.1.cell 7
  have s8 := hx.1.cell 8
  have sl := hx.1.lt
  simp at s0 s1 s2 s3 s4 s5 s6 s7 s8
  go_wp2_with fail
  refine (valid_any overB (some ⟨g4, 0, none⟩) c4 wh hx.2).mono ?_
  rintro e wi ⟨rfl, hb⟩
  rw [va_over]
  have HVwi := Lib.hid (HVwh.out.next hb)
  have HKwi := Lib.hid (bNext HKwh.out hb)
  clear s0 s1 s2 s3 s4 s5 s6 s7 s8 sl
  clear hx hb HVwh HKwh
  have hx := HVwi.out _ (List.Mem.head _)
  have s0 := hx.1.cell 0
  have s1 := hx.1.cell 1
  have s2 := hx.1.cell 2
  have s3 := hx.1.cell 3
  have s4 := hx.1.cell 4
  have s5 := hx.1.cell 5
  have s6 := hx.1.cell 6
  have s7 := hx.1.cell 7
  have s8 := hx.1.cell 8
  have sl := hx.1.lt
  simp at s0 s1 s2 s3 s4 s5 s6 s7 s8
  go_wp2_with fail
  refine (valid_any selfB (some ⟨q5, 0, none⟩) 3 wi hx.2).mono ?_
  rintro e wj ⟨rfl, hb⟩
  rw [va_self]
  have HVwj := Lib.hid (HVwi.out.next hb)
  have HKwj := Lib.hid (bNext HKwi.out hb)
  clear s0 s1 s2 s3 s4 s5 s6 s7 s8 sl
  clear hx hb HVwi HKwi
  go_wp2_with fail
  refine (valid_any zBk none 0 wj (InsAt.nil _ _ _)).mono ?_
  rintro e wk ⟨rfl, hb⟩
  rw [va_zero]
  have HVwk := Lib.hid (HVwj.out.next hb)
  have HKwk := Lib.hid (bNext HKwj.out hb)
  clear hb HVwj HKwj
  have HVz := Lib.hid (Vs.nil wk)
  clear HVwk
  have HVwk := HVz
  clear HVz
  go_wp2_with fail
  refine (rule_any wk).mono ?_
  rintro e w16 ⟨A, c6, rfl, ho, hb⟩
  obtain ⟨g6, cap, hv⟩ := own_some2 ho (by decide)
  injection hv with h1 h2 h3
  subst h1
  clear h2 h3
  have KG6 := Lib.hid (own_lt ho (g := g6) rfl)
  have KO6 := Lib.hid ho
  have KB6 := Lib.hid hb
  clear ho hb
  go_upto_region 13 with fail
  obtain ⟨w26, hw2⟩ : ∃ X, Hid (X = w16.alloc (.cells (bkC ruleB (some ⟨g6, 0, none⟩) ruleB.code.length c6) 28)) := ⟨_, rfl⟩
  obtain ⟨p6, hp⟩ : ∃ X, Hid (X = w16.heap.size) := ⟨_, rfl⟩
  rw [show w16.alloc (.cells (bkC ruleB (some ⟨g6, 0, none⟩) ruleB.code.length c6) 28) = w26 from hw2.out.symm, ← hp.out]
  have HP2 := Lib.hid (show Blk w26 p6 28 (bkC ruleB (some ⟨g6, 0, none⟩) ruleB.code.length c6) by rw [hw2.out, hp.out]; exact Blk.new _ _ _)
  have HO2 := Lib.hid (show w26.ownsRow wk.heap.size 34 6 (.slice (some ⟨g6, 0, none⟩) 6 c6) 6 (aCs ruleB.code) by rw [hw2.out]; exact own_next KO6.out (bAlloc _ _))
  have HB2 := Lib.hid (show Below wk.heap.size wk w26 by rw [hw2.out]; exact bNext KB6.out (bAlloc _ _))
  have HNE := Lib.hid (show p6 ≠ g6 by have := KG6.out.2; rw [hp.out]; omega)
  have t8 := HP2.out.cell 8
  have tl := HP2.out.lt
  simp at t8
  have k0 : w26.cell? ⟨g6, 18, none⟩ = some _ := (HO2.out.cellAt (g := g6) 18 (by decide)).trans rfl
  have k1 : w26.cell? ⟨g6, 18 + 1, none⟩ = some _ := (HO2.out.cellAt (g := g6) (18 + 1) (by decide)).trans rfl
  have k2 : w26.cell? ⟨g6, 18 + 2, none⟩ = some _ := (HO2.out.cellAt (g := g6) (18 + 2) (by decide)).trans rfl
  have k3 : w26.cell? ⟨g6, 18 + 3, none⟩ = some _ := (HO2.out.cellAt (g := g6) (18 + 3) (by decide)).trans rfl
  have k4 : w26.cell? ⟨g6, 18 + 4, none⟩ = some _ := (HO2.out.cellAt (g := g6) (18 + 4) (by decide)).trans rfl
  have k5 : w26.cell? ⟨g6, 18 + 5, none⟩ = some _ := (HO2.out.cellAt (g := g6) (18 + 5) (by decide)).trans rfl
  obtain ⟨cs, hcs⟩ := own_ty HO2.out (g := g6) rfl
  have f0 := frozen_of_row w26 g6 18 cs 34 hcs
  have f1 := frozen_of_row w26 g6 (18 + 1) cs 34 hcs
  have f2 := frozen_of_row w26 g6 (18 + 2) cs 34 hcs
  have f3 := frozen_of_row w26 g6 (18 + 3) cs 34 hcs
  have f4 := frozen_of_row w26 g6 (18 + 4) cs 34 hcs
  have f5 := frozen_of_row w26 g6 (18 + 5) cs 34 hcs
  have gl : g6 < w26.heap.size := (Array.getElem?_eq_some_iff.1 hcs).1
  have n6 : ruleB.code.length = 6 := rfl
  rw [n6] at t8
  simp only [Nat.reduceAdd] at k0 k1 k2 k3 k4 k5 f0 f1 f2 f3 f4 f5
  clear hcs
  go_upto_region 14 with fail
  obtain ⟨wl, hV⟩ : ∃ X, Hid (X = (((((w26.setCell ⟨g6, 18, none⟩ (.int .i64 22)).setCell ⟨g6, 18 + 1, none⟩ (.int .i64 1)).setCell ⟨g6, 18 + 2, none⟩ (.int .i64 0)).setCell ⟨g6, 18 + 3, none⟩ (.int .i64 0)).setCell ⟨g6, 18 + 4, none⟩ (.string ⟨#[]⟩)).setCell ⟨g6, 18 + 5, none⟩ (.int .i64 0)) := ⟨_, rfl⟩
  rw [show (((((w26.setCell ⟨g6, 18, none⟩ (.int .i64 22)).setCell ⟨g6, 18 + 1, none⟩ (.int .i64 1)).setCell ⟨g6, 18 + 2, none⟩ (.int .i64 0)).setCell ⟨g6, 18 + 3, none⟩ (.int .i64 0)).setCell ⟨g6, 18 + 4, none⟩ (.string ⟨#[]⟩)).setCell ⟨g6, 18 + 5, none⟩ (.int .i64 0) = wl from hV.out.symm]
  have HB3 := Lib.hid (show Below wk.heap.size wk wl by rw [hV.out]; exact below_six HB2.out KG6.out.1 _ _ _ _ _ _ _)
  have HVwl := Lib.hid (show Vs wl ((p6, lateB, some ⟨g6, 0, none⟩, c6) :: []) from (HVwk.out.next HB3.out).cons (by rw [hV.out]; exact blk_six HP2.out HNE.out _ _ _ _ _ _ _) (by
    have h1 : wl.ownsRow wk.heap.size 34 6 (.slice (some ⟨g6, 0, none⟩) 6 c6) 6 (aCs (lateB).code) := by rw [hV.out]; exact own_six HO2.out _ _ _ _ _ _ _
    exact own_ins' h1 (by decide)))
  have HKwl := Lib.hid (show Below w.heap.size w wl from bNext HKwk.out HB3.out)
  clear hV HB3 HB2 HP2 HO2 HNE hw2 hp t8 tl k0 k1 k2 k3 k4 k5 f0 f1 f2 f3 f4 f5 gl n6 KG6 KO6 KB6 HVwk HKwk
  go_wp2_with fail
  refine (rule_any wl).mono ?_
  rintro e w17 ⟨A, c7, rfl, ho, hb⟩
  obtain ⟨g7, cap, hv⟩ := own_some2 ho (by decide)
  injection hv with h1 h2 h3
  subst h1
  clear h2 h3
  have KG7 := Lib.hid (own_lt ho (g := g7) rfl)
  have KO7 := Lib.hid ho
  have KB7 := Lib.hid hb
  clear ho hb
  go_upto_region 15 with fail
  obtain ⟨w27, hw2⟩ : ∃ X, Hid (X = w17.alloc (.cells (bkC ruleB (some ⟨g7, 0, none⟩) ruleB.code.length c7) 28)) := ⟨_, rfl⟩
  obtain ⟨p7, hp⟩ : ∃ X, Hid (X = w17.heap.size) := ⟨_, rfl⟩
  rw [show w17.alloc (.cells (bkC ruleB (some ⟨g7, 0, none⟩) ruleB.code.length c7) 28) = w27 from hw2.out.symm, ← hp.out]
  have HP2 := Lib.hid (show Blk w27 p7 28 (bkC ruleB (some ⟨g7, 0, none⟩) ruleB.code.length c7) by rw [hw2.out, hp.out]; exact Blk.new _ _ _)
  have HO2 := Lib.hid (show w27.ownsRow wl.heap.size 34 6 (.slice (some ⟨g7, 0, none⟩) 6 c7) 6 (aCs ruleB.code) by rw [hw2.out]; exact own_next KO7.out (bAlloc _ _))
  have HB2 := Lib.hid (show Below wl.heap.size wl w27 by rw [hw2.out]; exact bNext KB7.out (bAlloc _ _))
  have HNE := Lib.hid (show p7 ≠ g7 by have := KG7.out.2; rw [hp.out]; omega)
  have t8 := HP2.out.cell 8
  have tl := HP2.out.lt
  simp at t8
  have k0 : w27.cell? ⟨g7, 6, none⟩ = some _ := (HO2.out.cellAt (g := g7) 6 (by decide)).trans rfl
  have k1 : w27.cell? ⟨g7, 6 + 1, none⟩ = some _ := (HO2.out.cellAt (g := g7) (6 + 1) (by decide)).trans rfl
  have k2 : w27.cell? ⟨g7, 6 + 2, none⟩ = some _ := (HO2.out.cellAt (g := g7) (6 + 2) (by decide)).trans rfl
  have k3 : w27.cell? ⟨g7, 6 + 3, none⟩ = some _ := (HO2.out.cellAt (g := g7) (6 + 3) (by decide)).trans rfl
  have k4 : w27.cell? ⟨g7, 6 + 4, none⟩ = some _ := (HO2.out.cellAt (g := g7) (6 + 4) (by decide)).trans rfl
  have k5 : w27.cell? ⟨g7, 6 + 5, none⟩ = some _ := (HO2.out.cellAt (g := g7) (6 + 5) (by decide)).trans rfl
  obtain ⟨cs, hcs⟩ := own_ty HO2.out (g := g7) rfl
  have f0 := frozen_of_row w27 g7 6 cs 34 hcs
  have f1 := frozen_of_row w27 g7 (6 + 1) cs 34 hcs
  have f2 := frozen_of_row w27 g7 (6 + 2) cs 34 hcs
  have f3 := frozen_of_row w27 g7 (6 + 3) cs 34 hcs
  have f4 := frozen_of_row w27 g7 (6 + 4) cs 34 hcs
  have f5 := frozen_of_row w27 g7 (6 + 5) cs 34 hcs
  have gl : g7 < w27.heap.size := (Array.getElem?_eq_some_iff.1 hcs).1
  have n6 : ruleB.code.length = 6 := rfl
  rw [n6] at t8
  simp only [Nat.reduceAdd] at k0 k1 k2 k3 k4 k5 f0 f1 f2 f3 f4 f5
  clear hcs
  go_upto_region 16 with fail
  obtain ⟨wm, hV⟩ : ∃ X, Hid (X = (((((w27.setCell ⟨g7, 6, none⟩ (.int .i64 22)).setCell ⟨g7, 6 + 1, none⟩ (.int .i64 (-1))).setCell ⟨g7, 6 + 2, none⟩ (.int .i64 0)).setCell ⟨g7, 6 + 3, none⟩ (.int .i64 0)).setCell ⟨g7, 6 + 4, none⟩ (.string ⟨#[]⟩)).setCell ⟨g7, 6 + 5, none⟩ (.int .i64 0)) := ⟨_, rfl⟩
  rw [show (((((w27.setCell ⟨g7, 6, none⟩ (.int .i64 22)).setCell ⟨g7, 6 + 1, none⟩ (.int .i64 (-1))).setCell ⟨g7, 6 + 2, none⟩ (.int .i64 0)).setCell ⟨g7, 6 + 3, none⟩ (.int .i64 0)).setCell ⟨g7, 6 + 4, none⟩ (.string ⟨#[]⟩)).setCell ⟨g7, 6 + 5, none⟩ (.int .i64 0) = wm from hV.out.symm]
  have HB3 := Lib.hid (show Below wl.heap.size wl wm by rw [hV.out]; exact below_six HB2.out KG7.out.1 _ _ _ _ _ _ _)
  have HVwm := Lib.hid (show Vs wm ((p7, earlyB, some ⟨g7, 0, none⟩, c7) :: [(p6, lateB, some ⟨g6, 0, none⟩, c6)]) from (HVwl.out.next HB3.out).cons (by rw [hV.out]; exact blk_six HP2.out HNE.out _ _ _ _ _ _ _) (by
    have h1 : wm.ownsRow wl.heap.size 34 6 (.slice (some ⟨g7, 0, none⟩) 6 c7) 6 (aCs (earlyB).code) := by rw [hV.out]; exact own_six HO2.out _ _ _ _ _ _ _
    exact own_ins' h1 (by decide)))
  have HKwm := Lib.hid (show Below w.heap.size w wm from bNext HKwl.out HB3.out)
  clear hV HB3 HB2 HP2 HO2 HNE hw2 hp t8 tl k0 k1 k2 k3 k4 k5 f0 f1 f2 f3 f4 f5 gl n6 KG7 KO7 KB7 HVwl HKwl
  go_wp2_with fail
  refine (rule_any wm).mono ?_
  rintro e w18 ⟨A, c8, rfl, ho, hb⟩
  obtain ⟨g8, cap, hv⟩ := own_some2 ho (by decide)
  injection hv with h1 h2 h3
  subst h1
  clear h2 h3
  have KG8 := Lib.hid (own_lt ho (g := g8) rfl)
  have KO8 := Lib.hid ho
  have KB8 := Lib.hid hb
  clear ho hb
  go_upto_region 17 with fail
  obtain ⟨w28, hw2⟩ : ∃ X, Hid (X = w18.alloc (.cells (bkC ruleB (some ⟨g8, 0, none⟩) ruleB.code.length c8) 28)) := ⟨_, rfl⟩
  obtain ⟨p8, hp⟩ : ∃ X, Hid (X = w18.heap.size) := ⟨_, rfl⟩
  rw [show w18.alloc (.cells (bkC ruleB (some ⟨g8, 0, none⟩) ruleB.code.length c8) 28) = w28 from hw2.out.symm, ← hp.out]
  have HP2 := Lib.hid (show Blk w28 p8 28 (bkC ruleB (some ⟨g8, 0, none⟩) ruleB.code.length c8) by rw [hw2.out, hp.out]; exact Blk.new _ _ _)
  have HO2 := Lib.hid (show w28.ownsRow wm.heap.size 34 6 (.slice (some ⟨g8, 0, none⟩) 6 c8) 6 (aCs ruleB.code) by rw [hw2.out]; exact own_next KO8.out (bAlloc _ _))
  have HB2 := Lib.hid (show Below wm.heap.size wm w28 by rw [hw2.out]; exact bNext KB8.out (bAlloc _ _))
  have HNE := Lib.hid (show p8 ≠ g8 by have := KG8.out.2; rw [hp.out]; omega)
  have t8 := HP2.out.cell 8
  have tl := HP2.out.lt
  simp at t8
  have k0 : w28.cell? ⟨g8, 12, none⟩ = some _ := (HO2.out.cellAt (g := g8) 12 (by decide)).trans rfl
  have k1 : w28.cell? ⟨g8, 12 + 1, none⟩ = some _ := (HO2.out.cellAt (g := g8) (12 + 1) (by decide)).trans rfl
  have k2 : w28.cell? ⟨g8, 12 + 2, none⟩ = some _ := (HO2.out.cellAt (g := g8) (12 + 2) (by decide)).trans rfl
  have k3 : w28.cell? ⟨g8, 12 + 3, none⟩ = some _ := (HO2.out.cellAt (g := g8) (12 + 3) (by decide)).trans rfl
  have k4 : w28.cell? ⟨g8, 12 + 4, none⟩ = some _ := (HO2.out.cellAt (g := g8) (12 + 4) (by decide)).trans rfl
  have k5 : w28.cell? ⟨g8, 12 + 5, none⟩ = some _ := (HO2.out.cellAt (g := g8) (12 + 5) (by decide)).trans rfl
  obtain ⟨cs, hcs⟩ := own_ty HO2.out (g := g8) rfl
  have f0 := frozen_of_row w28 g8 12 cs 34 hcs
  have f1 := frozen_of_row w28 g8 (12 + 1) cs 34 hcs
  have f2 := frozen_of_row w28 g8 (12 + 2) cs 34 hcs
  have f3 := frozen_of_row w28 g8 (12 + 3) cs 34 hcs
  have f4 := frozen_of_row w28 g8 (12 + 4) cs 34 hcs
  have f5 := frozen_of_row w28 g8 (12 + 5) cs 34 hcs
  have gl : g8 < w28.heap.size := (Array.getElem?_eq_some_iff.1 hcs).1
  have n6 : ruleB.code.length = 6 := rfl
  rw [n6] at t8
  simp only [Nat.reduceAdd] at k0 k1 k2 k3 k4 k5 f0 f1 f2 f3 f4 f5
  clear hcs
  go_upto_region 18 with fail
  obtain ⟨wn, hV⟩ : ∃ X, Hid (X = (((((w28.setCell ⟨g8, 12, none⟩ (.int .i64 17)).setCell ⟨g8, 12 + 1, none⟩ (.int .i64 0)).setCell ⟨g8, 12 + 2, none⟩ (.int .i64 0)).setCell ⟨g8, 12 + 3, none⟩ (.int .i64 0)).setCell ⟨g8, 12 + 4, none⟩ (.string ⟨#[]⟩)).setCell ⟨g8, 12 + 5, none⟩ (.int .i64 0)) := ⟨_, rfl⟩
  rw [show (((((w28.setCell ⟨g8, 12, none⟩ (.int .i64 17)).setCell ⟨g8, 12 + 1, none⟩ (.int .i64 0)).setCell ⟨g8, 12 + 2, none⟩ (.int .i64 0)).setCell ⟨g8, 12 + 3, none⟩ (.int .i64 0)).setCell ⟨g8, 12 + 4, none⟩ (.string ⟨#[]⟩)).setCell ⟨g8, 12 + 5, none⟩ (.int .i64 0) = wn from hV.out.symm]
  have HB3 := Lib.hid (show Below wm.heap.size wm wn by rw [hV.out]; exact below_six HB2.out KG8.out.1 _ _ _ _ _ _ _)
  have HVwn := Lib.hid (show Vs wn ((p8, trimB, some ⟨g8, 0, none⟩, c8) :: [(p7, earlyB, some ⟨g7, 0, none⟩, c7), (p6, lateB, some ⟨g6, 0, none⟩, c6)]) from (HVwm.out.next HB3.out).cons (by rw [hV.out]; exact blk_six HP2.out HNE.out _ _ _ _ _ _ _) (by
    have h1 : wn.ownsRow wm.heap.size 34 6 (.slice (some ⟨g8, 0, none⟩) 6 c8) 6 (aCs (trimB).code) := by rw [hV.out]; exact own_six HO2.out _ _ _ _ _ _ _
    exact own_ins' h1 (by decide)))
  have HKwn := Lib.hid (show Below w.heap.size w wn from bNext HKwm.out HB3.out)
  clear hV HB3 HB2 HP2 HO2 HNE hw2 hp t8 tl k0 k1 k2 k3 k4 k5 f0 f1 f2 f3 f4 f5 gl n6 KG8 KO8 KB8 HVwm HKwm
  go_wp2_with fail
  refine (rule_any wn).mono ?_
  rintro e w19 ⟨A, c9, rfl, ho, hb⟩
  obtain ⟨g9, cap, hv⟩ := own_some2 ho (by decide)
  injection hv with h1 h2 h3
  subst h1
  clear h2 h3
  have KG9 := Lib.hid (own_lt ho (g := g9) rfl)
  have KO9 := Lib.hid ho
  have KB9 := Lib.hid hb
  clear ho hb
  go_upto_region 19 with fail
  obtain ⟨w29, hw2⟩ : ∃ X, Hid (X = w19.alloc (.cells (bkC ruleB (some ⟨g9, 0, none⟩) ruleB.code.length c9) 28)) := ⟨_, rfl⟩
  obtain ⟨p9, hp⟩ : ∃ X, Hid (X = w19.heap.size) := ⟨_, rfl⟩
  rw [show w19.alloc (.cells (bkC ruleB (some ⟨g9, 0, none⟩) ruleB.code.length c9) 28) = w29 from hw2.out.symm, ← hp.out]
  have HP2 := Lib.hid (show Blk w29 p9 28 (bkC ruleB (some ⟨g9, 0, none⟩) ruleB.code.length c9) by rw [hw2.out, hp.out]; exact Blk.new _ _ _)
  have HO2 := Lib.hid (show w29.ownsRow wn.heap.size 34 6 (.slice (some ⟨g9, 0, none⟩) 6 c9) 6 (aCs ruleB.code) by rw [hw2.out]; exact own_next KO9.out (bAlloc _ _))
  have HB2 := Lib.hid (show Below wn.heap.size wn w29 by rw [hw2.out]; exact bNext KB9.out (bAlloc _ _))
  have HNE := Lib.hid (show p9 ≠ g9 by have := KG9.out.2; rw [hp.out]; omega)
  have t8 := HP2.out.cell 8
  have tl := HP2.out.lt
  simp at t8
  have k0 : w29.cell? ⟨g9, 12, none⟩ = some _ := (HO2.out.cellAt (g := g9) 12 (by decide)).trans rfl
  have k1 : w29.cell? ⟨g9, 12 + 1, none⟩ = some _ := (HO2.out.cellAt (g := g9) (12 + 1) (by decide)).trans rfl
  have k2 : w29.cell? ⟨g9, 12 + 2, none⟩ = some _ := (HO2.out.cellAt (g := g9) (12 + 2) (by decide)).trans rfl
  have k3 : w29.cell? ⟨g9, 12 + 3, none⟩ = some _ := (HO2.out.cellAt (g := g9) (12 + 3) (by decide)).trans rfl
  have k4 : w29.cell? ⟨g9, 12 + 4, none⟩ = some _ := (HO2.out.cellAt (g := g9) (12 + 4) (by decide)).trans rfl
  have k5 : w29.cell? ⟨g9, 12 + 5, none⟩ = some _ := (HO2.out.cellAt (g := g9) (12 + 5) (by decide)).trans rfl
  obtain ⟨cs, hcs⟩ := own_ty HO2.out (g := g9) rfl
  have f0 := frozen_of_row w29 g9 12 cs 34 hcs
  have f1 := frozen_of_row w29 g9 (12 + 1) cs 34 hcs
  have f2 := frozen_of_row w29 g9 (12 + 2) cs 34 hcs
  have f3 := frozen_of_row w29 g9 (12 + 3) cs 34 hcs
  have f4 := frozen_of_row w29 g9 (12 + 4) cs 34 hcs
  have f5 := frozen_of_row w29 g9 (12 + 5) cs 34 hcs
  have gl : g9 < w29.heap.size := (Array.getElem?_eq_some_iff.1 hcs).1
  have n6 : ruleB.code.length = 6 := rfl
  rw [n6] at t8
  simp only [Nat.reduceAdd] at k0 k1 k2 k3 k4 k5 f0 f1 f2 f3 f4 f5
  clear hcs
  go_upto_region 20 with fail
  obtain ⟨wo, hV⟩ : ∃ X, Hid (X = (((((w29.setCell ⟨g9, 12, none⟩ (.int .i64 17)).setCell ⟨g9, 12 + 1, none⟩ (.int .i64 0)).setCell ⟨g9, 12 + 2, none⟩ (.int .i64 0)).setCell ⟨g9, 12 + 3, none⟩ (.int .i64 1)).setCell ⟨g9, 12 + 4, none⟩ (.string ⟨#[]⟩)).setCell ⟨g9, 12 + 5, none⟩ (.int .i64 0)) := ⟨_, rfl⟩
  rw [show (((((w29.setCell ⟨g9, 12, none⟩ (.int .i64 17)).setCell ⟨g9, 12 + 1, none⟩ (.int .i64 0)).setCell ⟨g9, 12 + 2, none⟩ (.int .i64 0)).setCell ⟨g9, 12 + 3, none⟩ (.int .i64 1)).setCell ⟨g9, 12 + 4, none⟩ (.string ⟨#[]⟩)).setCell ⟨g9, 12 + 5, none⟩ (.int .i64 0) = wo from hV.out.symm]
  have HB3 := Lib.hid (show Below wn.heap.size wn wo by rw [hV.out]; exact below_six HB2.out KG9.out.1 _ _ _ _ _ _ _)
  have HVwo := Lib.hid (show Vs wo ((p9, trimmedB, some ⟨g9, 0, none⟩, c9) :: [(p8, trimB, some ⟨g8, 0, none⟩, c8), (p7, earlyB, some ⟨g7, 0, none⟩, c7), (p6, lateB, some ⟨g6, 0, none⟩, c6)]) from (HVwn.out.next HB3.out).cons (by rw [hV.out]; exact blk_six HP2.out HNE.out _ _ _ _ _ _ _) (by
    have h1 : wo.ownsRow wn.heap.size 34 6 (.slice (some ⟨g9, 0, none⟩) 6 c9) 6 (aCs (trimmedB).code) := by rw [hV.out]; exact own_six HO2.out _ _ _ _ _ _ _
    exact own_ins' h1 (by decide)))
  have HKwo := Lib.hid (show Below w.heap.size w wo from bNext HKwn.out HB3.out)
  clear hV HB3 HB2 HP2 HO2 HNE hw2 hp t8 tl k0 k1 k2 k3 k4 k5 f0 f1 f2 f3 f4 f5 gl n6 KG9 KO9 KB9 HVwn HKwn
  have hx := HVwo.out _ (List.Mem.tail _ (List.Mem.tail _ (List.Mem.tail _ (List.Mem.head _))))
  have s0 := hx.1.cell 0
  have s1 := hx.1.cell 1
  have s2 := hx.1.cell 2
  have s3 := hx.1.cell 3
  have s4 := hx.1.cell 4
  have s5 := hx.1.cell 5
  have s6 := hx.1.cell 6
  have s7 := hx.1.cell 7
  have s8 := hx.1.cell 8
  have sl := hx.1.lt
  simp at s0 s1 s2 s3 s4 s5 s6 s7 s8
  go_wp2_with fail
  refine (valid_any lateB (some ⟨g6, 0, none⟩) c6 wo hx.2).mono ?_
  rintro e wp ⟨rfl, hb⟩
  rw [va_late]
  have HVwp := Lib.hid (HVwo.out.next hb)
  have HKwp := Lib.hid (bNext HKwo.out hb)
  clear s0 s1 s2 s3 s4 s5 s6 s7 s8 sl
  clear hx hb HVwo HKwo
  have hx := HVwp.out _ (List.Mem.tail _ (List.Mem.tail _ (List.Mem.head _)))
  have s0 := hx.1.cell 0
  have s1 := hx.1.cell 1
  have s2 := hx.1.cell 2
  have s3 := hx.1.cell 3
  have s4 := hx.1.cell 4
  have s5 := hx.1.cell 5
  have s6 := hx.1.cell 6
  have s7 := hx.1.cell 7
  have s8 := hx.1.cell 8
  have sl := hx.1.lt
  simp at s0 s1 s2 s3 s4 s5 s6 s7 s8
  go_wp2_with fail
  refine (valid_any earlyB (some ⟨g7, 0, none⟩) c7 wp hx.2).mono ?_
  rintro e wq ⟨rfl, hb⟩
  rw [va_early]
  have HVwq := Lib.hid (HVwp.out.next hb)
  have HKwq := Lib.hid (bNext HKwp.out hb)
  clear s0 s1 s2 s3 s4 s5 s6 s7 s8 sl
  clear hx hb HVwp HKwp
  have hx := HVwq.out _ (List.Mem.tail _ (List.Mem.head _))
  have s0 := hx.1.cell 0
  have s1 := hx.1.cell 1
  have s2 := hx.1.cell 2
  have s3 := hx.1.cell 3
  have s4 := hx.1.cell 4
  have s5 := hx.1.cell 5
  have s6 := hx.1.cell 6
  have s7 := hx.1.cell 7
  have s8 := hx.1.cell 8
  have sl := hx.1.lt
  simp at s0 s1 s2 s3 s4 s5 s6 s7 s8
  go_wp2_with fail
  refine (valid_any trimB (some ⟨g8, 0, none⟩) c8 wq hx.2).mono ?_
  rintro e wr ⟨rfl, hb⟩
  rw [va_trim]
  have HVwr := Lib.hid (HVwq.out.next hb)
  have HKwr := Lib.hid (bNext HKwq.out hb)
  clear s0 s1 s2 s3 s4 s5 s6 s7 s8 sl
  clear hx hb HVwq HKwq
  have hx := HVwr.out _ (List.Mem.head _)
  have s0 := hx.1.cell 0
  have s1 := hx.1.cell 1
  have s2 := hx.1.cell 2
  have s3 := hx.1.cell 3
  have s4 := hx.1.cell 4
  have s5 := hx.1.cell 5
  have s6 := hx.1.cell 6
  have s7 := hx.1.cell 7
  have s8 := hx.1.cell 8
  have sl := hx.1.lt
  simp at s0 s1 s2 s3 s4 s5 s6 s7 s8
  go_wp2_with fail
  refine (valid_any trimmedB (some ⟨g9, 0, none⟩) c9 wr hx.2).mono ?_
  rintro e ws ⟨rfl, hb⟩
  rw [va_trimmed]
  have HVws := Lib.hid (HVwr.out.next hb)
  have HKws := Lib.hid (bNext HKwr.out hb)
  clear s0 s1 s2 s3 s4 s5 s6 s7 s8 sl
  clear hx hb HVwr HKwr
  have HVz := Lib.hid (Vs.nil ws)
  clear HVws
  have HVws := HVz
  clear HVz
  go_upto_region 23 with fail
  obtain ⟨wt, hV⟩ : ∃ X, Hid (X = (ws.alloc (.cells #[.int .i64 3, .int .i64 0, .int .i64 2, .int .i64 (-9223372036854775808), .string ⟨#[]⟩, .int .i64 0, .int .i64 5, .int .i64 0, .int .i64 1, .int .i64 0, .string ⟨#[]⟩, .int .i64 1, .int .i64 6, .int .i64 3, .int .i64 0, .int .i64 0, .string ⟨#[]⟩, .int .i64 0, .int .i64 23, .int .i64 4, .int .i64 0, .int .i64 0, .string ⟨#[]⟩, .int .i64 0, .int .i64 24, .int .i64 4, .int .i64 0, .int .i64 0, .string ⟨#[]⟩, .int .i64 0, .int .i64 20, .int .i64 0, .int .i64 0, .int .i64 9, .string ⟨#[]⟩, .int .i64 2] 34)).alloc (.cells #[.int .i64 8589934592, .string ⟨#[]⟩, .int .i64 2, .int .i64 7, .int .i64 3, .int .i64 0, .string ⟨#[97, 32, 34, 92, 10, 255]⟩, .int .i64 3, .slice (some ⟨ws.heap.size, 0, none⟩) 6 6] 28)) := ⟨_, rfl⟩
  obtain ⟨q10, hq⟩ : ∃ X, Hid (X = ws.heap.size) := ⟨_, rfl⟩
  obtain ⟨p10, hp⟩ : ∃ X, Hid (X = ws.heap.size + 1) := ⟨_, rfl⟩
  rw [← hV.out, ← hp.out]
  have HB3 := Lib.hid (show Below ws.heap.size ws wt by rw [hV.out]; exact (bAlloc _ _).alloc (by simp) _)
  have HVwt := Lib.hid (show Vs wt ((p10, oddB, some ⟨q10, 0, none⟩, 6) :: []) from (HVws.out.next HB3.out).cons (by
      have h := Blk.new (ws.alloc (.cells (aCs (oddB).code).toArray 34)) 28 (bkC oddB (some ⟨ws.heap.size, 0, none⟩) 6 6)
      rw [World.size_alloc] at h
      rw [hV.out, hq.out, hp.out]
      exact h) (by
      have h := (lit_code ws (oddB).code (by decide) rfl).next (show Below _ _ _ from bAlloc (ws.alloc (.cells (aCs (oddB).code).toArray 34)) (.cells (bkC oddB (some ⟨ws.heap.size, 0, none⟩) 6 6) 28))
      rw [hV.out, hq.out]
      exact h))
  have HKwt := Lib.hid (show Below w.heap.size w wt from bNext HKws.out HB3.out)
  clear hV hq hp HB3 HVws HKws
  have hx := HVwt.out _ (List.Mem.head _)
  have s0 := hx.1.cell 0
  have s1 := hx.1.cell 1
  have s2 := hx.1.cell 2
  have s3 := hx.1.cell 3
  have s4 := hx.1.cell 4
  have s5 := hx.1.cell 5
  have s6 := hx.1.cell 6
  have s7 := hx.1.cell 7
  have s8 := hx.1.cell 8
  have sl := hx.1.lt
  simp at s0 s1 s2 s3 s4 s5 s6 s7 s8
  go_wp2_with fail
  refine (text_any oddB (some ⟨q10, 0, none⟩) 6 wt hx.2 rg_odd (HE.out.next HKwt.out)).mono ?_
  rintro e wu ⟨rfl, hb⟩
  rw [textV_odd]
  have HKwu := Lib.hid (bNext HKwt.out hb)
  clear s0 s1 s2 s3 s4 s5 s6 s7 s8 sl
  clear hx hb HVwt HKwt
  have hodd : ((S oddT).toList == [98, 108, 111, 99, 107, 32, 56, 53, 56, 57, 57, 51, 52, 53, 57, 50, 32, 35, 55, 47, 50, 32, 34, 97, 32, 92, 120, 50, 50, 92, 120, 53, 99, 92, 120, 48, 97, 92, 120, 102, 102, 34, 47, 51, 10, 103, 101, 116, 95, 105, 110, 116, 32, 88, 50, 32, 45, 57, 50, 50, 51, 51, 55, 50, 48, 51, 54, 56, 53, 52, 55, 55, 53, 56, 48, 56, 10, 103, 101, 116, 95, 115, 116, 114, 117, 99, 116, 32, 88, 49, 32, 34, 34, 47, 49, 10, 97, 114, 103, 95, 118, 97, 114, 32, 88, 51, 10, 109, 97, 114, 107, 32, 88, 52, 10, 99, 117, 116, 32, 88, 52, 10, 101, 120, 101, 99, 117, 116, 101, 32, 35, 57, 47, 50, 10]) = true := by rw [ByteArray.toList_eq, S_list]; exact beq_self_eq_true _
  go_upto_region 26 with fail
  clear hodd
  obtain ⟨g, hg⟩ : ∃ X, Hid (X = wu.heap.size) := ⟨_, rfl⟩
  obtain ⟨v0, hv0⟩ : ∃ X, Hid (X = wu.alloc (.map #[] 0)) := ⟨_, rfl⟩
  have HM0 := Lib.hid (show StrM v0 g 0 [] by rw [hv0.out, hg.out]; exact StrM.new wu)
  have HB0 := Lib.hid (show Below w.heap.size w v0 by rw [hv0.out]; exact bNext HKwu.out (bAlloc _ _))
  have HGL := Lib.hid (show w.heap.size ≤ g by rw [hg.out]; exact HKwu.out.size)
  refine wp_region_lit ?_
  refine wpList_val2 (.map (some g)) v0 rfl (by rw [hv0.out, hg.out]; kernel_rfl) ?_
  clear hv0 hg HKwu
  refine wpList_insert_str v0 rfl (.tmp 138) _ _ rfl g 0 _ [] 1 rfl HM0.out rfl rfl (by decide +kernel) ?_
  intro v1 hM hG hZ
  have HM1 := Lib.hid hM
  have HB1 := Lib.hid (HB0.out.grown hG HB0.out.size (fun g' e => by injection e with e; have := HGL.out; omega))
  clear hM hG hZ HM0 HB0
  refine wpList_insert_str v1 rfl (.tmp 138) _ _ rfl g 1 _ [98, 108, 111, 99, 107, 32, 49, 32, 34, 112, 34, 47, 48, 32, 95] 1 rfl HM1.out rfl rfl (by decide +kernel) ?_
  intro v2 hM hG hZ
  have HM2 := Lib.hid hM
  have HB2 := Lib.hid (HB1.out.grown hG HB1.out.size (fun g' e => by injection e with e; have := HGL.out; omega))
  clear hM hG hZ HM1 HB1
  refine wpList_insert_str v2 rfl (.tmp 138) _ _ rfl g 2 _ [98, 108, 111, 99, 107, 32, 49, 32, 34, 112, 34, 47, 48, 32, 95, 10, 112, 114, 111, 99, 101, 101, 100] 2 rfl HM2.out rfl rfl (by decide +kernel) ?_
  intro v3 hM hG hZ
  have HM3 := Lib.hid hM
  have HB3 := Lib.hid (HB2.out.grown hG HB2.out.size (fun g' e => by injection e with e; have := HGL.out; omega))
  clear hM hG hZ HM2 HB2
  refine wpList_insert_str v3 rfl (.tmp 138) _ _ rfl g 3 _ [98, 108, 111, 99, 107, 32, 48, 32, 34, 112, 34, 47, 48, 32, 95, 10, 112, 114, 111, 99, 101, 101, 100, 10] 1 rfl HM3.out rfl rfl (by decide +kernel) ?_
  intro v4 hM hG hZ
  have HM4 := Lib.hid hM
  have HB4 := Lib.hid (HB3.out.grown hG HB3.out.size (fun g' e => by injection e with e; have := HGL.out; omega))
  clear hM hG hZ HM3 HB3
  refine wpList_insert_str v4 rfl (.tmp 138) _ _ rfl g 4 _ [98, 108, 111, 99, 107, 32, 49, 32, 34, 112, 34, 47, 57, 32, 95, 10, 112, 114, 111, 99, 101, 101, 100, 10] 1 rfl HM4.out rfl rfl (by decide +kernel) ?_
  intro v5 hM hG hZ
  have HM5 := Lib.hid hM
  have HB5 := Lib.hid (HB4.out.grown hG HB4.out.size (fun g' e => by injection e with e; have := HGL.out; omega))
  clear hM hG hZ HM4 HB4
  refine wpList_insert_str v5 rfl (.tmp 138) _ _ rfl g 5 _ [98, 108, 111, 99, 107, 32, 49, 32, 34, 112, 34, 47, 48, 32, 32, 95, 10, 112, 114, 111, 99, 101, 101, 100, 10] 1 rfl HM5.out rfl rfl (by decide +kernel) ?_
  intro v6 hM hG hZ
  have HM6 := Lib.hid hM
  have HB6 := Lib.hid (HB5.out.grown hG HB5.out.size (fun g' e => by injection e with e; have := HGL.out; omega))
  clear hM hG hZ HM5 HB5
  refine wpList_insert_str v6 rfl (.tmp 138) _ _ rfl g 6 _ [98, 108, 111, 99, 107, 32, 49, 32, 34, 112, 34, 47, 48, 32, 95, 10, 112, 114, 111, 99, 101, 101, 100, 32, 10] 2 rfl HM6.out rfl rfl (by decide +kernel) ?_
  intro v7 hM hG hZ
  have HM7 := Lib.hid hM
  have HB7 := Lib.hid (HB6.out.grown hG HB6.out.size (fun g' e => by injection e with e; have := HGL.out; omega))
  clear hM hG hZ HM6 HB6
  refine wpList_insert_str v7 rfl (.tmp 138) _ _ rfl g 7 _ [98, 108, 111, 99, 107, 32, 49, 32, 34, 112, 34, 47, 48, 32, 95, 10, 103, 101, 116, 95, 105, 110, 116, 32, 88, 49, 32, 45, 48, 10, 112, 114, 111, 99, 101, 101, 100, 10] 2 rfl HM7.out rfl rfl (by decide +kernel) ?_
  intro v8 hM hG hZ
  have HM8 := Lib.hid hM
  have HB8 := Lib.hid (HB7.out.grown hG HB7.out.size (fun g' e => by injection e with e; have := HGL.out; omega))
  clear hM hG hZ HM7 HB7
  refine wpList_insert_str v8 rfl (.tmp 138) _ _ rfl g 8 _ [98, 108, 111, 99, 107, 32, 49, 32, 34, 112, 34, 47, 48, 32, 95, 10, 103, 101, 116, 95, 105, 110, 116, 32, 88, 49, 32, 57, 50, 50, 51, 51, 55, 50, 48, 51, 54, 56, 53, 52, 55, 55, 53, 56, 48, 56, 10] 2 rfl HM8.out rfl rfl (by decide +kernel) ?_
  intro v9 hM hG hZ
  have HM9 := Lib.hid hM
  have HB9 := Lib.hid (HB8.out.grown hG HB8.out.size (fun g' e => by injection e with e; have := HGL.out; omega))
  clear hM hG hZ HM8 HB8
  refine wpList_insert_str v9 rfl (.tmp 138) _ _ rfl g 9 _ [98, 108, 111, 99, 107, 32, 49, 32, 34, 92, 120, 52, 49, 34, 47, 48, 32, 95, 10, 112, 114, 111, 99, 101, 101, 100, 10] 1 rfl HM9.out rfl rfl (by decide +kernel) ?_
  intro v10 hM hG hZ
  have HM10 := Lib.hid hM
  have HB10 := Lib.hid (HB9.out.grown hG HB9.out.size (fun g' e => by injection e with e; have := HGL.out; omega))
  clear hM hG hZ HM9 HB9
  refine wpList_insert_str v10 rfl (.tmp 138) _ _ rfl g 10 _ [98, 108, 111, 99, 107, 32, 49, 32, 34, 112, 34, 47, 48, 32, 95, 10, 112, 114, 111, 99, 101, 101, 100, 10, 10] 3 rfl HM10.out rfl rfl (by decide +kernel) ?_
  intro v11 hM hG hZ
  have HM11 := Lib.hid hM
  have HB11 := Lib.hid (HB10.out.grown hG HB10.out.size (fun g' e => by injection e with e; have := HGL.out; omega))
  clear hM hG hZ HM10 HB10
  refine wpList_insert_str v11 rfl (.tmp 138) _ _ rfl g 11 _ [98, 108, 111, 99, 107, 32, 49, 32, 34, 112, 34, 47, 48, 32, 95, 10, 103, 101, 116, 95, 118, 97, 108, 32, 88, 48, 32, 88, 49, 10] 2 rfl HM11.out rfl rfl (by decide +kernel) ?_
  intro v12 hM hG hZ
  have HM12 := Lib.hid hM
  have HB12 := Lib.hid (HB11.out.grown hG HB11.out.size (fun g' e => by injection e with e; have := HGL.out; omega))
  clear hM hG hZ HM11 HB11
  refine wpList_insert_str v12 rfl (.tmp 138) _ _ rfl g 12 _ [98, 108, 111, 99, 107, 32, 49, 32, 34, 112, 34, 47, 48, 32, 48, 49, 10, 112, 114, 111, 99, 101, 101, 100, 10] 1 rfl HM12.out rfl rfl (by decide +kernel) ?_
  intro v13 hM hG hZ
  have HM13 := Lib.hid hM
  have HB13 := Lib.hid (HB12.out.grown hG HB12.out.size (fun g' e => by injection e with e; have := HGL.out; omega))
  clear hM hG hZ HM12 HB12
  refine wpList_val2 (.map (some g)) v13 rfl (by kernel_rfl) ?_
  refine wpList_range_str v13 rfl (.tmp 139) rfl g 13 _ rfl HM13.out ?_
  intro v14 hI hG hZ
  obtain ⟨r, hr⟩ : ∃ X, Hid (X = v13.heap.size) := ⟨_, rfl⟩
  rw [← hr.out] at hI ⊢
  have HI := Lib.hid (show ItM v14 g r knownL from hI)
  have HRL := Lib.hid (show w.heap.size ≤ r by rw [hr.out]; exact HB13.out.size)
  have HB := Lib.hid (HB13.out.grown hG HB13.out.size (fun g' e => by cases e))
  clear hI hG hZ hr HM13 HB13
  simp only [Act.put, List.setIfInBounds_toArray, List.set_cons_zero, List.set_cons_succ]
  go_upto_block 0 with fail
  rename_i K hK
  refine known_loop _ HI HB HE HRL ?_
  intro y0 y13 y14 y15 y16 y17 y141 y142 y143 y144 y145 y146 y147 y148 y149 y150 y151 y152 y153 y154 y155 y156 y157 y158 y159 y160 y161 y162 y163 y164 w9 hb9
  refine hK _ _ ?_
  exact known_tail (Lib.hid hb9) HE
end Go.Proofs.YtbipeakinmbdiaaGreatDoor
