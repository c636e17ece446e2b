/-
  Walks: the reference's makers of balls.
-/
import Derived.Test.YtcagaaacfcpoeaaGreatGa
import Derived.Deep.AppendLies
namespace Go.Proofs.YtcagaaacfcpoeaaGreat
open Go.RowKit

set_option maxHeartbeats 2000000 in
theorem valid46_any (t : Tm) (A : Option Addr) (c : Nat) (w : World) (ha : ArgsAt w (Old w.heap.size) A t.args) :
    Calls Tryz.prog 46 #[t.v A c] w fun e w' => NewT w (cloneT t) e w' ∧ Below w.heap.size w w' := by
  obtain ⟨W, HW⟩ : ∃ X, Hid (X = (w.alloc (.cells #[.int .i64 t.kind, .int .i64 t.n, .string t.name, .slice A t.args.length c] 24)).alloc (.cells #[.int .i64 0, .int .i64 0, .string { data := #[] }, .slice none 0 0] 24)) := ⟨_, rfl⟩
  have hbW : Below w.heap.size w W := by rw [HW.out]; exact (bAlloc w _).alloc (by simp) _
  obtain ⟨q, hq⟩ : ∃ q, Hid (q = w.heap.size) := ⟨_, rfl⟩
  obtain ⟨r, hr⟩ : ∃ q, Hid (q = w.heap.size + 1) := ⟨_, rfl⟩
  have hk0 : Blk W q 24 #[.int .i64 t.kind, .int .i64 t.n, .string t.name, .slice A t.args.length c] := by rw [HW.out, hq.out]; exact (Blk.new w _ _).alloc _
  have hk1 : Blk W r 24 #[.int .i64 0, .int .i64 0, .string { data := #[] }, .slice none 0 0] := by
    rw [HW.out, hr.out]
    have h1 := Blk.new (w.alloc (.cells #[.int .i64 t.kind, .int .i64 t.n, .string t.name, .slice A t.args.length c] 24)) 24 #[.int .i64 0, .int .i64 0, .string { data := #[] }, .slice none 0 0]
    rw [World.size_alloc] at h1
    exact h1
  have HA := Lib.hid ha
  have HB := Lib.hid hbW
  have HK := Lib.hid hk0
  have HR := Lib.hid hk1
  have hqr : q ≠ r := by rw [hq.out, hr.out]; omega
  have hqw : w.heap.size ≤ q := by rw [hq.out]; exact Nat.le_refl _
  have hrw : w.heap.size ≤ r := by rw [hr.out]; omega
  have e0 := hk0.cell 0
  have e1 := hk0.cell 1
  have e2 := hk0.cell 2
  have e3 := hk0.cell 3
  have el := hk0.lt
  simp at e0 e1 e2 e3
  clear ha hbW hk0 hk1
  go_enter Tryz.func46, Tryz.ntmps46
  go_upto_region 1 with fail
  rw [← HW.out, ← hr.out, ← hq.out]
  clear HW
  have HB0 := HB
  have HR0 := HR
  go_wp2_with fail
  refine (clone76_any t A c W (ArgsNext HA.out HB.out)).mono ?_
  clear e0 e1 e2 e3 el
  rintro e w1 ⟨⟨A1, c1, rfl, ha1⟩, hb1⟩
  have HB1 := Lib.hid (bNext HB0.out hb1)
  have HR1 := Lib.hid (BlkNext HR0.out hb1)
  have hz0 := HB0.out.size
  have hrl0 := HR0.out.lt
  have HA1 := Lib.hid ha1
  clear ha1 hb1
  have r0 := HR1.out.cell 0
  have f0 := HR1.out.frozen 0
  have r1 := HR1.out.cell 1
  have f1 := HR1.out.frozen 1
  have r2 := HR1.out.cell 2
  have f2 := HR1.out.frozen 2
  have r3 := HR1.out.cell 3
  have f3 := HR1.out.frozen 3
  have rl := HR1.out.lt
  simp at r0 r1 r2 r3
  go_wp2_with fail
  refine bodyPost_ret (v := (cloneT t).v A1 c1) (by simp only [results, Tryz.results46]; go_simp) rfl ⟨?_, ?_⟩
  · skip
    refine ⟨A1, c1, rfl, ?_⟩
    refine HA1.out.keep (fun b hb => ?_) (fun b hb => ⟨by have := hb.1; omega, by have := hb.2; simpa using this⟩)
    repeat rw [heap_setCell_other _ _ _ _ (by have := hb.1; simp; omega)]
  · repeat refine Below.setCell ?_ hrw _
    exact HB1.out
set_option maxHeartbeats 2000000 in
theorem inst68_any (w : World) : Calls Tryz.prog 68 #[] w fun e w' => NewT w instRC e w' ∧ Below w.heap.size w w' := by
  obtain ⟨W, HW⟩ : ∃ X, Hid (X = w.alloc (.cells #[.int .i64 0, .int .i64 0, .string { data := #[] }, .slice none 0 0] 24)) := ⟨_, rfl⟩
  have hbW : Below w.heap.size w W := by rw [HW.out]; exact bAlloc w _
  obtain ⟨r, hr⟩ : ∃ q, Hid (q = w.heap.size) := ⟨_, rfl⟩
  have hk1 : Blk W r 24 #[.int .i64 0, .int .i64 0, .string { data := #[] }, .slice none 0 0] := by rw [HW.out, hr.out]; exact Blk.new w _ _
  have HB := Lib.hid hbW
  have HR := Lib.hid hk1
  have hrw : w.heap.size ≤ r := by rw [hr.out]; exact Nat.le_refl _
  clear hbW hk1
  go_enter Tryz.func68, Tryz.ntmps68
  go_upto_region 1 with fail
  rw [← HW.out, ← hr.out]
  clear HW
  go_wp2_with fail
  refine (atom54_any _ W).mono ?_
  rintro e w1 ⟨rfl, hb1⟩
  have HB1 := Lib.hid (bNext HB.out hb1)
  have HR1 := Lib.hid (BlkNext HR.out hb1)
  clear hb1
  go_wp2_with fail
  refine (ball52_any (atmC _) none 0 w1 (.nil _)).mono ?_
  rintro e w2 ⟨⟨A2, c2, rfl, ha2⟩, hb2⟩
  have HB2 := Lib.hid (bNext HB1.out hb2)
  have HR2 := Lib.hid (BlkNext HR1.out hb2)
  have hz1 := HB1.out.size
  have hrl1 := HR1.out.lt
  have HA2 := Lib.hid ha2
  clear ha2 hb2
  have r0 := HR2.out.cell 0
  have f0 := HR2.out.frozen 0
  have r1 := HR2.out.cell 1
  have f1 := HR2.out.frozen 1
  have r2 := HR2.out.cell 2
  have f2 := HR2.out.frozen 2
  have r3 := HR2.out.cell 3
  have f3 := HR2.out.frozen 3
  have rl := HR2.out.lt
  simp at r0 r1 r2 r3
  go_wp2_with fail
  refine bodyPost_ret (v := (instRC).v A2 c2) (by simp only [results, Tryz.results68]; go_simp) rfl ⟨?_, ?_⟩
  · skip
    refine ⟨A2, c2, rfl, ?_⟩
    refine HA2.out.keep (fun b hb => ?_) (fun b hb => ⟨by have := hb.1; omega, by have := hb.2; simpa using this⟩)
    repeat rw [heap_setCell_other _ _ _ _ (by have := hb.1; simp; omega)]
  · repeat refine Below.setCell ?_ hrw _
    exact HB2.out
set_option maxHeartbeats 2000000 in
theorem indi19_any (s : ByteArray) (n : Int) (w : World) : Calls Tryz.prog 19 #[.string s, .int .i64 n] w fun e w' => NewT w (indRC s n) e w' ∧ Below w.heap.size w w' := by
  obtain ⟨W, HW⟩ : ∃ X, Hid (X = w.alloc (.cells #[.int .i64 0, .int .i64 0, .string { data := #[] }, .slice none 0 0] 24)) := ⟨_, rfl⟩
  have hbW : Below w.heap.size w W := by rw [HW.out]; exact bAlloc w _
  obtain ⟨r, hr⟩ : ∃ q, Hid (q = w.heap.size) := ⟨_, rfl⟩
  have hk1 : Blk W r 24 #[.int .i64 0, .int .i64 0, .string { data := #[] }, .slice none 0 0] := by rw [HW.out, hr.out]; exact Blk.new w _ _
  have HB := Lib.hid hbW
  have HR := Lib.hid hk1
  have hrw : w.heap.size ≤ r := by rw [hr.out]; exact Nat.le_refl _
  clear hbW hk1
  go_enter Tryz.func19, Tryz.ntmps19
  go_upto_region 1 with fail
  rw [← HW.out, ← hr.out]
  clear HW
  have HB0 := HB
  have HR0 := HR
  by_cases hn : n < 0 ∨ 8 < n
  · have HE := Lib.hid (show indRC s n = zeroT from if_pos hn)
    have r0 := HR.out.cell 0
    have f0 := HR.out.frozen 0
    have r1 := HR.out.cell 1
    have f1 := HR.out.frozen 1
    have r2 := HR.out.cell 2
    have f2 := HR.out.frozen 2
    have r3 := HR.out.cell 3
    have f3 := HR.out.frozen 3
    have rl := HR.out.lt
    simp at r0 r1 r2 r3
    by_cases h1 : n < 0
    · have d1 : decide (n < 0) = true := by simpa using h1
      clear hn h1
      go_wp2_with fail
      refine bodyPost_ret (v := Tm.v zeroT none 0) (by simp only [results, Tryz.results19]; go_simp; exact ⟨rfl, rfl, rfl, rfl⟩) rfl ⟨by rw [HE.out]; exact ⟨none, 0, rfl, .nil _⟩, ?_⟩
      repeat refine Below.setCell ?_ hrw _
      exact HB.out
    · have d1 : decide (n < 0) = false := by simpa using h1
      have d2 : decide (8 < n) = true := by simp; omega
      clear hn h1
      go_wp2_with fail
      refine bodyPost_ret (v := Tm.v zeroT none 0) (by simp only [results, Tryz.results19]; go_simp; exact ⟨rfl, rfl, rfl, rfl⟩) rfl ⟨by rw [HE.out]; exact ⟨none, 0, rfl, .nil _⟩, ?_⟩
      repeat refine Below.setCell ?_ hrw _
      exact HB.out
  · have HE := Lib.hid (show indRC s n = cloneT (goalC { data := #[47] } [atmC s, intC n]) from if_neg hn)
    have d1 : decide (n < 0) = false := by simp; omega
    have d2 : decide (8 < n) = false := by simp; omega
    clear hn
    go_wp2_with fail
    obtain ⟨w2, hw2⟩ : ∃ X, Hid (X = W.alloc (.cells #[.int .i64 (atmC s).kind, .int .i64 (atmC s).n, .string (atmC s).name, .slice none (atmC s).args.length 0, .int .i64 (intC n).kind, .int .i64 (intC n).n, .string (intC n).name, .slice none (intC n).args.length 0] 24)) := ⟨_, rfl⟩
    obtain ⟨g2, hg2⟩ : ∃ q, Hid (q = W.heap.size) := ⟨_, rfl⟩
    show Calls Tryz.prog 46 #[(goalC { data := #[47] } [atmC s, intC n]).v (some ⟨W.heap.size, 0, none⟩) 2] (W.alloc (.cells #[.int .i64 (atmC s).kind, .int .i64 (atmC s).n, .string (atmC s).name, .slice none (atmC s).args.length 0, .int .i64 (intC n).kind, .int .i64 (intC n).n, .string (intC n).name, .slice none (intC n).args.length 0] 24)) _
    rw [← hw2.out, ← hg2.out]
    have hb2 : Below W.heap.size W w2 := by rw [hw2.out]; exact bAlloc _ _
    have HB2 := Lib.hid (bNext HB.out hb2)
    have HR2 := Lib.hid (BlkNext HR.out hb2)
    have HL2 := Lib.hid (show ArgsAt w2 (Old w2.heap.size) (some ⟨g2, 0, none⟩) [atmC s, intC n] by
      rw [hw2.out, hg2.out]
      exact args_two (F := Old W.heap.size) (x := atmC s) (y := intC n) (A := none) (B := none) (c := 0) (d := 0) (.nil _) (.nil _) (fun b hb => ⟨hb, by have : b < W.heap.size := hb; simp; omega⟩) (by simp))
    clear hw2 hb2
    refine (valid46_any (goalC { data := #[47] } [atmC s, intC n]) (some ⟨g2, 0, none⟩) 2 w2 HL2.out).mono ?_
    rw [← HE.out]
    rintro e w3 ⟨⟨A3, c3, rfl, ha3⟩, hb3⟩
    have HB3 := Lib.hid (bNext HB2.out hb3)
    have HR3 := Lib.hid (BlkNext HR2.out hb3)
    have hz2 := HB2.out.size
    have hrl2 := HR2.out.lt
    have HA3 := Lib.hid ha3
    clear ha3 hb3
    have r0 := HR3.out.cell 0
    have f0 := HR3.out.frozen 0
    have r1 := HR3.out.cell 1
    have f1 := HR3.out.frozen 1
    have r2 := HR3.out.cell 2
    have f2 := HR3.out.frozen 2
    have r3 := HR3.out.cell 3
    have f3 := HR3.out.frozen 3
    have rl := HR3.out.lt
    simp at r0 r1 r2 r3
    go_wp2_with fail
    refine bodyPost_ret (v := (indRC s n).v A3 c3) (by simp only [results, Tryz.results19]; go_simp) rfl ⟨?_, ?_⟩
    · skip
      refine ⟨A3, c3, rfl, ?_⟩
      refine HA3.out.keep (fun b hb => ?_) (fun b hb => ⟨by have := hb.1; omega, by have := hb.2; simpa using this⟩)
      repeat rw [heap_setCell_other _ _ _ _ (by have := hb.1; simp; omega)]
    · repeat refine Below.setCell ?_ hrw _
      exact HB3.out
set_option maxHeartbeats 2000000 in
theorem failed71_any (n : Int) (w : World) : Calls Tryz.prog 71 #[.int .i64 n] w fun e w' => NewT w (failC n) e w' ∧ Below w.heap.size w w' := by
  obtain ⟨W, HW⟩ : ∃ X, Hid (X = w.alloc (.cells #[.int .i64 0, .int .i64 0, .string { data := #[] }, .slice none 0 0] 24)) := ⟨_, rfl⟩
  have hbW : Below w.heap.size w W := by rw [HW.out]; exact bAlloc w _
  obtain ⟨r, hr⟩ : ∃ q, Hid (q = w.heap.size) := ⟨_, rfl⟩
  have hk1 : Blk W r 24 #[.int .i64 0, .int .i64 0, .string { data := #[] }, .slice none 0 0] := by rw [HW.out, hr.out]; exact Blk.new w _ _
  have HB := Lib.hid hbW
  have HR := Lib.hid hk1
  have hrw : w.heap.size ≤ r := by rw [hr.out]; exact Nat.le_refl _
  clear hbW hk1
  go_enter Tryz.func71, Tryz.ntmps71
  go_upto_region 1 with fail
  rw [← HW.out, ← hr.out]
  clear HW
  have HB0 := HB
  have HR0 := HR
  by_cases h1 : n = 10
  · subst h1
    have HE := Lib.hid (show failC 10 = revC { data := #[105, 110, 116, 95, 111, 118, 101, 114, 102, 108, 111, 119] } from if_pos rfl)
    go_wp2_with fail
    refine (reval25_any _ W).mono ?_
    rw [← HE.out]
    rintro e w1 ⟨⟨A1, c1, rfl, ha1⟩, hb1⟩
    have HB1 := Lib.hid (bNext HB0.out hb1)
    have HR1 := Lib.hid (BlkNext HR0.out hb1)
    have hz0 := HB0.out.size
    have hrl0 := HR0.out.lt
    have HA1 := Lib.hid ha1
    clear ha1 hb1
    have r0 := HR1.out.cell 0
    have f0 := HR1.out.frozen 0
    have r1 := HR1.out.cell 1
    have f1 := HR1.out.frozen 1
    have r2 := HR1.out.cell 2
    have f2 := HR1.out.frozen 2
    have r3 := HR1.out.cell 3
    have f3 := HR1.out.frozen 3
    have rl := HR1.out.lt
    simp at r0 r1 r2 r3
    go_wp2_with fail
    refine bodyPost_ret (v := (failC 10).v A1 c1) (by simp only [results, Tryz.results71]; go_simp) rfl ⟨?_, ?_⟩
    · skip
      refine ⟨A1, c1, rfl, ?_⟩
      refine HA1.out.keep (fun b hb => ?_) (fun b hb => ⟨by have := hb.1; omega, by have := hb.2; simpa using this⟩)
      repeat rw [heap_setCell_other _ _ _ _ (by have := hb.1; simp; omega)]
    · repeat refine Below.setCell ?_ hrw _
      exact HB1.out
  · by_cases h2 : n = 11
    · subst h2
      have HE := Lib.hid (show failC 11 = revC { data := #[122, 101, 114, 111, 95, 100, 105, 118, 105, 115, 111, 114] } by unfold failC; rw [if_neg (by decide), if_pos rfl])
      go_wp2_with fail
      refine (reval25_any _ W).mono ?_
      rw [← HE.out]
      rintro e w1 ⟨⟨A1, c1, rfl, ha1⟩, hb1⟩
      have HB1 := Lib.hid (bNext HB0.out hb1)
      have HR1 := Lib.hid (BlkNext HR0.out hb1)
      have hz0 := HB0.out.size
      have hrl0 := HR0.out.lt
      have HA1 := Lib.hid ha1
      clear ha1 hb1
      have r0 := HR1.out.cell 0
      have f0 := HR1.out.frozen 0
      have r1 := HR1.out.cell 1
      have f1 := HR1.out.frozen 1
      have r2 := HR1.out.cell 2
      have f2 := HR1.out.frozen 2
      have r3 := HR1.out.cell 3
      have f3 := HR1.out.frozen 3
      have rl := HR1.out.lt
      simp at r0 r1 r2 r3
      go_wp2_with fail
      refine bodyPost_ret (v := (failC 11).v A1 c1) (by simp only [results, Tryz.results71]; go_simp) rfl ⟨?_, ?_⟩
      · skip
        refine ⟨A1, c1, rfl, ?_⟩
        refine HA1.out.keep (fun b hb => ?_) (fun b hb => ⟨by have := hb.1; omega, by have := hb.2; simpa using this⟩)
        repeat rw [heap_setCell_other _ _ _ _ (by have := hb.1; simp; omega)]
      · repeat refine Below.setCell ?_ hrw _
        exact HB1.out
    · have HE := Lib.hid (show failC n = revC { data := #[117, 110, 100, 101, 102, 105, 110, 101, 100] } by unfold failC; rw [if_neg h1, if_neg h2])
      have q1 : (n == 10) = false := by simpa using h1
      have q2 : (n == 11) = false := by simpa using h2
      clear h1 h2
      go_wp2_with fail
      refine (reval25_any _ W).mono ?_
      rw [← HE.out]
      rintro e w1 ⟨⟨A1, c1, rfl, ha1⟩, hb1⟩
      have HB1 := Lib.hid (bNext HB0.out hb1)
      have HR1 := Lib.hid (BlkNext HR0.out hb1)
      have hz0 := HB0.out.size
      have hrl0 := HR0.out.lt
      have HA1 := Lib.hid ha1
      clear ha1 hb1
      have r0 := HR1.out.cell 0
      have f0 := HR1.out.frozen 0
      have r1 := HR1.out.cell 1
      have f1 := HR1.out.frozen 1
      have r2 := HR1.out.cell 2
      have f2 := HR1.out.frozen 2
      have r3 := HR1.out.cell 3
      have f3 := HR1.out.frozen 3
      have rl := HR1.out.lt
      simp at r0 r1 r2 r3
      go_wp2_with fail
      refine bodyPost_ret (v := (failC n).v A1 c1) (by simp only [results, Tryz.results71]; go_simp) rfl ⟨?_, ?_⟩
      · skip
        refine ⟨A1, c1, rfl, ?_⟩
        refine HA1.out.keep (fun b hb => ?_) (fun b hb => ⟨by have := hb.1; omega, by have := hb.2; simpa using this⟩)
        repeat rw [heap_setCell_other _ _ _ _ (by have := hb.1; simp; omega)]
      · repeat refine Below.setCell ?_ hrw _
        exact HB1.out
theorem args_ownT {w : World} {F : Nat → Prop} {B g cap n : Nat} {rs : List Tr} (hn : n = rs.length) (h : w.ownsRow B 24 4 (.slice (some ⟨g, 0, none⟩) n cap) n (tmCs rs)) (hF : F g) (hr : ∀ r ∈ rs, ArgsAt w F r.2.1 r.1.args) (hl : rs.length ≤ 281474976710656) : ArgsAt w F (some ⟨g, 0, none⟩) (rs.map (·.1)) := by
  subst hn
  have hc : ∀ j u, (tmCs rs)[j]? = some u → w.cell? ⟨g, j, none⟩ = some u := fun j u hj => by
    have := h.cells (g := g) rfl j u hj
    rw [← this]
    unfold Addr.add
    by_cases hi : j = 0 <;> simp [hi]
  refine .row g 0 _ (fun i => ((rs[i]?).map (·.2.1)).getD none) (fun i => ((rs[i]?).map (·.2.2)).getD 0) hF (by simpa using hl) ?_ ?_
  · intro i x hx
    rw [List.getElem?_map] at hx
    cases hr : rs[i]? with
    | none => rw [hr] at hx; cases hx
    | some r =>
      rw [hr] at hx
      simp at hx
      subst hx
      obtain ⟨q0, q1, q2, q3⟩ := tmCs_at hr
      simp only [Nat.zero_add, TmCells]
      exact ⟨hc _ _ q0, hc _ _ q1, hc _ _ q2, by simpa [hr] using hc _ _ q3⟩
  · intro i x hx
    rw [List.getElem?_map] at hx
    cases hr2 : rs[i]? with
    | none => rw [hr2] at hx; cases hx
    | some r =>
      rw [hr2] at hx
      simp at hx
      subst hx
      simpa [hr2] using hr r (List.mem_of_getElem? hr2)
set_option maxRecDepth 100000 in
set_option maxHeartbeats 4000000 in
theorem with45_any (t : Tm) (A : Option Addr) (c : Nat) (f x : ByteArray) (gn : Nat) (w : World) (ha : ArgsAt w (Old w.heap.size) A t.args) (hn : w.cell? ⟨gn, 0, none⟩ = some (.string x)) (hnl : gn < w.heap.size) :
    Calls Tryz.prog 45 #[t.v A c, .string f, .slice (some ⟨gn, 0, none⟩) 1 1] w fun e w' => NewT w (withC t f x) e w' ∧ Below w.heap.size w w' := by
  obtain ⟨i1, hi1, hy0, hy1, hy2⟩ := info_parts info47
  have HN := Lib.hid hn
  clear hn
  obtain ⟨W, HW⟩ : ∃ X, Hid (X = (w.alloc (.cells #[.int .i64 t.kind, .int .i64 t.n, .string t.name, .slice A t.args.length c] 24)).alloc (.cells #[.int .i64 0, .int .i64 0, .string { data := #[] }, .slice none 0 0] 24)) := ⟨_, rfl⟩
  have hbW : Below w.heap.size w W := by rw [HW.out]; exact (bAlloc w _).alloc (by simp) _
  obtain ⟨q, hq⟩ : ∃ q, Hid (q = w.heap.size) := ⟨_, rfl⟩
  obtain ⟨r, hr⟩ : ∃ q, Hid (q = w.heap.size + 1) := ⟨_, rfl⟩
  have HZ2 := Lib.hid (show W.heap.size = w.heap.size + 2 by rw [HW.out]; simp)
  have hk0 : Blk W q 24 #[.int .i64 t.kind, .int .i64 t.n, .string t.name, .slice A t.args.length c] := by rw [HW.out, hq.out]; exact (Blk.new w _ _).alloc _
  have hk1 : Blk W r 24 #[.int .i64 0, .int .i64 0, .string { data := #[] }, .slice none 0 0] := by
    rw [HW.out, hr.out]
    have h1 := Blk.new (w.alloc (.cells #[.int .i64 t.kind, .int .i64 t.n, .string t.name, .slice A t.args.length c] 24)) 24 #[.int .i64 0, .int .i64 0, .string { data := #[] }, .slice none 0 0]
    rw [World.size_alloc] at h1
    exact h1
  have HA := Lib.hid ha
  have HB := Lib.hid hbW
  have HK := Lib.hid hk0
  have HR := Lib.hid hk1
  have hqr : q ≠ r := by rw [hq.out, hr.out]; omega
  have hqw : w.heap.size ≤ q := by rw [hq.out]; exact Nat.le_refl _
  have hrw : w.heap.size ≤ r := by rw [hr.out]; omega
  have e0 := hk0.cell 0
  have e1 := hk0.cell 1
  have e2 := hk0.cell 2
  have e3 := hk0.cell 3
  have el := hk0.lt
  simp at e0 e1 e2 e3
  clear ha hbW hk0 hk1
  go_enter Tryz.func45, Tryz.ntmps45
  go_upto_region 1 with fail
  rw [← HW.out, ← hr.out, ← hq.out]
  clear HW
  go_wp2_with fail
  refine (valid03_any t A c W (ArgsNext HA.out HB.out)).mono ?_
  rintro e w1 ⟨rfl, hb1⟩
  have HB1 := Lib.hid (bNext HB.out hb1)
  have HR1 := Lib.hid (BlkNext HR.out hb1)
  have HK1 := Lib.hid (BlkNext HK.out hb1)
  have HW1 := Lib.hid hb1
  clear e0 e1 e2 e3 el hb1
  cases hv : validT t
  · have HV := Lib.hid (show withC t f x = zeroT from if_pos hv)
    clear hv
    have r0 := HR1.out.cell 0
    have f0 := HR1.out.frozen 0
    have r1 := HR1.out.cell 1
    have f1 := HR1.out.frozen 1
    have r2 := HR1.out.cell 2
    have f2 := HR1.out.frozen 2
    have r3 := HR1.out.cell 3
    have f3 := HR1.out.frozen 3
    have rl := HR1.out.lt
    simp at r0 r1 r2 r3
    go_wp2_with fail
    refine bodyPost_ret (v := Tm.v zeroT none 0) (by simp only [results, Tryz.results45, Tm.kind, Tm.n, Tm.name, Tm.args]; go_simp; exact ⟨rfl, rfl, rfl, rfl⟩) rfl ⟨by rw [HV.out]; exact ⟨none, 0, rfl, .nil _⟩, ?_⟩
    repeat refine Below.setCell ?_ hrw _
    exact HB1.out
  · have HV := Lib.hid (show withC t f x = ballC (goalC f [atmC x, if 2000 < 4 + min (cnt t : Int) 2001 then atmC { data := #[46, 46, 46] } else t]) from if_neg (by simp [hv]))
    have HOK := Lib.hid (validT_ok hv)
    clear hv
    have n0 : w1.cell? ⟨gn, 0, none⟩ = some (.string x) := (HB1.out.cell (p := ⟨gn, 0, none⟩) hnl).trans HN.out
    have nl : gn < w1.heap.size := Nat.lt_of_lt_of_le hnl HB1.out.size
    go_wp2_with fail
    refine wp_loop_rounds 2 ?_
    rw [rounds_succ]
    go_wp2_with fail
    refine (atom54_any x w1).mono ?_
    rintro e w2 ⟨rfl, hb2⟩
    have HB2 := Lib.hid (bNext HB1.out hb2)
    have HR2 := Lib.hid (BlkNext HR1.out hb2)
    have HK2 := Lib.hid (BlkNext HK1.out hb2)
    have hzW : W.heap.size = w.heap.size + 2 := HZ2.out
    have hz2 : w.heap.size + 2 ≤ w2.heap.size := by have := HW1.out.size; have := hb2.size; omega
    clear hb2 n0 nl hzW
    go_wp2_with (at_builtin; refine wpList_append_lies _ rfl (.tmp 19) (.tmp 25) 22 rfl (w.heap.size + 2) 24 i1 _ 4 56 Tryz.underlying22 hi1 hy0 hy1 hy2 rfl (by decide) (.slice none 0 0) 0 (tmCs []) rfl (World.ownsRow_nil _ _ _ _) ⟨w2.heap.size, 0, none⟩ 1 1 [.int .i64 (atmC x).kind, .int .i64 (atmC x).n, .string (atmC x).name, .slice none (atmC x).args.length 0] rfl rfl ?c1 ?c2 (by decide) ?c3 ?c4 ?c5 (w2.heap.size + 1) ?c6 ?_)
    case c1 => exact World.news_of_block (cs := #[.int .i64 (atmC x).kind, .int .i64 (atmC x).n, .string (atmC x).name, .slice none (atmC x).args.length 0]) (t := 24) (fr := (0, 0)) (heap_alloc_new w2 _)
    case c2 => simp [Value.oneCell']
    case c3 => unfold maxLen; omega
    case c4 => omega
    case c5 => simp; omega
    case c6 => simp
    intro gg cap w3 hown3 hg3 hat3 hlt3
    have HO3 := Lib.hid (show w3.ownsRow (w.heap.size + 2) 24 4 (.slice (some ⟨gg, 0, none⟩) 1 cap) 1 (tmCs [(atmC x, none, 0)]) from hown3)
    have HB3 := Lib.hid (bGrown (HB2.out.alloc HB2.out.size (.cells #[.int .i64 (atmC x).kind, .int .i64 (atmC x).n, .string (atmC x).name, .slice none (atmC x).args.length 0] 24)) (World.ownsRow_nil _ (w.heap.size + 2) 24 4) hg3 (by simp; omega) (by omega))
    have HR3 := Lib.hid ((HR2.out.alloc (.cells #[.int .i64 (atmC x).kind, .int .i64 (atmC x).n, .string (atmC x).name, .slice none (atmC x).args.length 0] 24)).grown hg3 (fun e => by cases e))
    have HK3 := Lib.hid ((HK2.out.alloc (.cells #[.int .i64 (atmC x).kind, .int .i64 (atmC x).n, .string (atmC x).name, .slice none (atmC x).args.length 0] 24)).grown hg3 (fun e => by cases e))
    clear hown3 hg3 hat3 hlt3 hz2
    go_wp2_with fail
    rw [rounds_succ]
    have e0 := HK3.out.cell 0
    have g0 := HK3.out.frozen 0
    have e1 := HK3.out.cell 1
    have g1 := HK3.out.frozen 1
    have e2 := HK3.out.cell 2
    have g2 := HK3.out.frozen 2
    have e3 := HK3.out.cell 3
    have g3 := HK3.out.frozen 3
    have el := HK3.out.lt
    simp at e0 e1 e2 e3
    clear g0 g1 g2 g3
    go_wp2_with fail
    refine (size_any t A c w3 (ArgsNext HA.out HB3.out)).mono ?_
    rintro e w4 ⟨rfl, hb4⟩
    have HB4 := Lib.hid (bNext HB3.out hb4)
    have HR4 := Lib.hid (BlkNext HR3.out hb4)
    have HK4 := Lib.hid (BlkNext HK3.out hb4)
    have HO4 := Lib.hid (own_below HO3.out hb4)
    clear hb4 e0 e1 e2 e3 el
    obtain ⟨n, hn⟩ : ∃ n : Nat, min (cnt t : Int) 2001 = n := ⟨cnt t, by have := HOK.out.2; omega⟩
    have hn2 : n ≤ 2000 := by have := HOK.out.2; omega
    rw [hn]
    rw [hn] at HV
    clear hn
    by_cases hbig : 2000 < 4 + (n : Int)
    · have HZ := Lib.hid (show withC t f x = ballC (goalC f [atmC x, atmC { data := #[46, 46, 46] }]) by rw [HV.out, if_pos hbig])
      clear HV
      have hq : (2000 : Int) < 2 + 1 + n + 1 := by omega
      have q1 : decide ((2000 : Int) < 3 + (n : Int) + 1) = true := by simp; omega
      clear hbig hq
      go_wp2_with fail
      refine (atom54_any _ w4).mono ?_
      rintro e w5 ⟨rfl, hb5⟩
      have HB5 := Lib.hid (bNext HB4.out hb5)
      have HR5 := Lib.hid (BlkNext HR4.out hb5)
      have HK5 := Lib.hid (BlkNext HK4.out hb5)
      have HO5 := Lib.hid (own_below HO4.out hb5)
      clear hb5
      have r0 := HK5.out.cell 0
      have f0 := HK5.out.frozen 0
      have r1 := HK5.out.cell 1
      have f1 := HK5.out.frozen 1
      have r2 := HK5.out.cell 2
      have f2 := HK5.out.frozen 2
      have r3 := HK5.out.cell 3
      have f3 := HK5.out.frozen 3
      have rl := HK5.out.lt
      simp at r0 r1 r2 r3
      go_upto_region 10 with fail
      obtain ⟨u5, hu5⟩ : ∃ X, Hid (X = (((w5.setCell ⟨q, 0, none⟩ (.int .i64 (atmC { data := #[46, 46, 46] }).kind)).setCell ⟨q, 1, none⟩ (.int .i64 (atmC { data := #[46, 46, 46] }).n)).setCell ⟨q, 2, none⟩ (.string (atmC { data := #[46, 46, 46] }).name)).setCell ⟨q, 3, none⟩ (.slice none (atmC { data := #[46, 46, 46] }).args.length 0)) := ⟨_, rfl⟩
      have hk5 : Blk u5 q 24 #[.int .i64 (atmC { data := #[46, 46, 46] }).kind, .int .i64 (atmC { data := #[46, 46, 46] }).n, .string (atmC { data := #[46, 46, 46] }).name, .slice none (atmC { data := #[46, 46, 46] }).args.length 0] := by
        rw [hu5.out]
        have h := (((HK5.out.set_ 0 (.int .i64 (atmC { data := #[46, 46, 46] }).kind)).set_ 1 (.int .i64 (atmC { data := #[46, 46, 46] }).n)).set_ 2 (.string (atmC { data := #[46, 46, 46] }).name)).set_ 3 (.slice none (atmC { data := #[46, 46, 46] }).args.length 0)
        simpa using h
      have hr5 : Blk u5 r 24 #[.int .i64 0, .int .i64 0, .string { data := #[] }, .slice none 0 0] := by
        rw [hu5.out]
        exact (((HR5.out.far (p := ⟨q, 0, none⟩) (Ne.symm hqr) _).far (p := ⟨q, 1, none⟩) (Ne.symm hqr) _).far (p := ⟨q, 2, none⟩) (Ne.symm hqr) _).far (p := ⟨q, 3, none⟩) (Ne.symm hqr) _
      have hb5 : Below w.heap.size w u5 := by
        rw [hu5.out]
        repeat refine Below.setCell ?_ hqw _
        exact HB5.out
      have ho5 : u5.ownsRow (w.heap.size + 2) 24 4 (.slice (some ⟨gg, 0, none⟩) 1 cap) 1 (tmCs [(atmC x, none, 0)]) := own_stay HO5.out (fun g hg => by
        have := (HO5.out.lt g hg).1
        have hq1 := hq.out
        rw [hu5.out]
        repeat rw [heap_setCell_other _ _ _ _ (by simp; omega)])
      have HBu := Lib.hid hb5
      have HKu := Lib.hid hk5
      have HRu := Lib.hid hr5
      have HOu := Lib.hid ho5
      rw [show (((w5.setCell ⟨q, 0, none⟩ (.int .i64 (atmC { data := #[46, 46, 46] }).kind)).setCell ⟨q, 1, none⟩ (.int .i64 (atmC { data := #[46, 46, 46] }).n)).setCell ⟨q, 2, none⟩ (.string (atmC { data := #[46, 46, 46] }).name)).setCell ⟨q, 3, none⟩ (.slice none (atmC { data := #[46, 46, 46] }).args.length 0) = u5 from hu5.out.symm]
      clear hb5 hk5 hr5 ho5 hu5 r0 r1 r2 r3 rl f0 f1 f2 f3 q1
      have HAN := Lib.hid (ArgsAt.nil (w := w) (F := Old w.heap.size) none)
      have e0 := HKu.out.cell 0
      have g0 := HKu.out.frozen 0
      have e1 := HKu.out.cell 1
      have g1 := HKu.out.frozen 1
      have e2 := HKu.out.cell 2
      have g2 := HKu.out.frozen 2
      have e3 := HKu.out.cell 3
      have g3 := HKu.out.frozen 3
      have el := HKu.out.lt
      simp at e0 e1 e2 e3
      clear g0 g1 g2 g3
      go_wp2_with (at_builtin; refine wpList_append_lies _ rfl (.tmp 37) (.tmp 39) 22 rfl (w.heap.size + 2) 24 i1 _ 4 56 Tryz.underlying22 hi1 hy0 hy1 hy2 rfl (by decide) (.slice (some ⟨gg, 0, none⟩) 1 cap) 1 (tmCs [(atmC x, none, 0)]) rfl (HOu.out.alloc _) ⟨u5.heap.size, 0, none⟩ 1 1 [.int .i64 ((atmC { data := #[46, 46, 46] })).kind, .int .i64 ((atmC { data := #[46, 46, 46] })).n, .string ((atmC { data := #[46, 46, 46] })).name, .slice none ((atmC { data := #[46, 46, 46] })).args.length 0] rfl rfl ?d1a ?d2a (by decide) ?d3a ?d4a ?d5a (u5.heap.size + 1) ?d6a ?_)
      case d1a => exact World.news_of_block (cs := #[.int .i64 ((atmC { data := #[46, 46, 46] })).kind, .int .i64 ((atmC { data := #[46, 46, 46] })).n, .string ((atmC { data := #[46, 46, 46] })).name, .slice none ((atmC { data := #[46, 46, 46] })).args.length 0]) (t := 24) (fr := (0, 0)) (heap_alloc_new u5 _)
      case d2a => simp [Value.oneCell']
      case d3a => unfold maxLen; omega
      case d4a => omega
      case d5a => simp; have := HBu.out.size; omega
      case d6a => simp
      intro gh caph w6 hown6 hg6 hat6 hlt6
      have HB6 := Lib.hid (bGrown (HBu.out.alloc HBu.out.size (.cells #[.int .i64 ((atmC { data := #[46, 46, 46] })).kind, .int .i64 ((atmC { data := #[46, 46, 46] })).n, .string ((atmC { data := #[46, 46, 46] })).name, .slice none ((atmC { data := #[46, 46, 46] })).args.length 0] 24)) (HOu.out.alloc _) hg6 (by simp; have := HBu.out.size; omega) (by omega))
      have hne6 : (Value.slice (some ⟨gg, 0, none⟩) 1 cap).ownBlock ≠ some r := fun e => by have := (HOu.out.lt _ e).1; rw [hr.out] at this; omega
      have HR6 := Lib.hid ((HRu.out.alloc (.cells #[.int .i64 ((atmC { data := #[46, 46, 46] })).kind, .int .i64 ((atmC { data := #[46, 46, 46] })).n, .string ((atmC { data := #[46, 46, 46] })).name, .slice none ((atmC { data := #[46, 46, 46] })).args.length 0] 24)).grown hg6 hne6)
      have HL6 := Lib.hid (show ArgsAt w6 (Old w6.heap.size) (some ⟨gh, 0, none⟩) [atmC x, (atmC { data := #[46, 46, 46] })] from args_ownT (rs := [(atmC x, none, 0), ((atmC { data := #[46, 46, 46] }), none, 0)]) rfl (by exact hown6) ((hown6.lt gh rfl).2) (fun r hr => by
        simp at hr
        rcases hr with rfl | rfl
        · exact .nil _
        · exact HAN.out.keep (fun b hb => HB6.out.block b hb) (fun b hb => Nat.lt_of_lt_of_le hb HB6.out.size)) (by simp))
      clear hown6 hg6 hat6 hlt6 hne6 e0 e1 e2 e3 el
      go_wp2_with fail
      refine (structure53_any f [atmC x, (atmC { data := #[46, 46, 46] })] (some ⟨gh, 0, none⟩) caph w6).mono ?_
      rintro e w7 ⟨rfl, hb7⟩
      have HB7 := Lib.hid (bNext HB6.out hb7)
      have HR7 := Lib.hid (BlkNext HR6.out hb7)
      have HL7 := Lib.hid (ArgsNext HL6.out hb7)
      clear hb7
      go_wp2_with fail
      refine (ball52_any (goalC f [atmC x, (atmC { data := #[46, 46, 46] })]) (some ⟨gh, 0, none⟩) caph w7 HL7.out).mono ?_
      rw [← HZ.out]
      rintro e w8 ⟨⟨A8, c8, rfl, ha8⟩, hb8⟩
      have HB8 := Lib.hid (bNext HB7.out hb8)
      have HR8 := Lib.hid (BlkNext HR7.out hb8)
      have hz7 := HB7.out.size
      have hrl7 := HR7.out.lt
      have HA8 := Lib.hid ha8
      clear ha8 hb8
      have r0 := HR8.out.cell 0
      have f0 := HR8.out.frozen 0
      have r1 := HR8.out.cell 1
      have f1 := HR8.out.frozen 1
      have r2 := HR8.out.cell 2
      have f2 := HR8.out.frozen 2
      have r3 := HR8.out.cell 3
      have f3 := HR8.out.frozen 3
      have rl := HR8.out.lt
      simp at r0 r1 r2 r3
      go_wp2_with fail
      refine bodyPost_ret (v := (withC t f x).v A8 c8) (by simp only [results, Tryz.results45]; go_simp) rfl ⟨?_, ?_⟩
      · skip
        refine ⟨A8, c8, rfl, ?_⟩
        refine HA8.out.keep (fun b hb => ?_) (fun b hb => ⟨by have := hb.1; omega, by have := hb.2; simpa using this⟩)
        repeat rw [heap_setCell_other _ _ _ _ (by have := hb.1; simp; omega)]
      · repeat refine Below.setCell ?_ hrw _
        exact HB8.out
    · have HZ := Lib.hid (show withC t f x = ballC (goalC f [atmC x, t]) by rw [HV.out, if_neg hbig])
      clear HV
      have q1 : decide ((2000 : Int) < 3 + (n : Int) + 1) = false := by simp; omega
      clear hbig
      have e0 := HK4.out.cell 0
      have g0 := HK4.out.frozen 0
      have e1 := HK4.out.cell 1
      have g1 := HK4.out.frozen 1
      have e2 := HK4.out.cell 2
      have g2 := HK4.out.frozen 2
      have e3 := HK4.out.cell 3
      have g3 := HK4.out.frozen 3
      have el := HK4.out.lt
      simp at e0 e1 e2 e3
      clear g0 g1 g2 g3
      go_wp2_with (at_builtin; refine wpList_append_lies _ rfl (.tmp 37) (.tmp 39) 22 rfl (w.heap.size + 2) 24 i1 _ 4 56 Tryz.underlying22 hi1 hy0 hy1 hy2 rfl (by decide) (.slice (some ⟨gg, 0, none⟩) 1 cap) 1 (tmCs [(atmC x, none, 0)]) rfl (HO4.out.alloc _) ⟨w4.heap.size, 0, none⟩ 1 1 [.int .i64 t.kind, .int .i64 t.n, .string t.name, .slice A t.args.length c] rfl rfl ?d1b ?d2b (by decide) ?d3b ?d4b ?d5b (w4.heap.size + 1) ?d6b ?_)
      case d1b => exact World.news_of_block (cs := #[.int .i64 t.kind, .int .i64 t.n, .string t.name, .slice A t.args.length c]) (t := 24) (fr := (0, 0)) (heap_alloc_new w4 _)
      case d2b => simp [Value.oneCell']
      case d3b => unfold maxLen; omega
      case d4b => omega
      case d5b => simp; have := HB4.out.size; omega
      case d6b => simp
      intro gh caph w6 hown6 hg6 hat6 hlt6
      have HB6 := Lib.hid (bGrown (HB4.out.alloc HB4.out.size (.cells #[.int .i64 t.kind, .int .i64 t.n, .string t.name, .slice A t.args.length c] 24)) (HO4.out.alloc _) hg6 (by simp; have := HB4.out.size; omega) (by omega))
      have hne6 : (Value.slice (some ⟨gg, 0, none⟩) 1 cap).ownBlock ≠ some r := fun e => by have := (HO4.out.lt _ e).1; rw [hr.out] at this; omega
      have HR6 := Lib.hid ((HR4.out.alloc (.cells #[.int .i64 t.kind, .int .i64 t.n, .string t.name, .slice A t.args.length c] 24)).grown hg6 hne6)
      have HL6 := Lib.hid (show ArgsAt w6 (Old w6.heap.size) (some ⟨gh, 0, none⟩) [atmC x, t] from args_ownT (rs := [(atmC x, none, 0), (t, A, c)]) rfl (by exact hown6) ((hown6.lt gh rfl).2) (fun r hr => by
        simp at hr
        rcases hr with rfl | rfl
        · exact .nil _
        · exact HA.out.keep (fun b hb => HB6.out.block b hb) (fun b hb => Nat.lt_of_lt_of_le hb HB6.out.size)) (by simp))
      clear hown6 hg6 hat6 hlt6 hne6 e0 e1 e2 e3 el
      go_wp2_with fail
      refine (structure53_any f [atmC x, t] (some ⟨gh, 0, none⟩) caph w6).mono ?_
      rintro e w7 ⟨rfl, hb7⟩
      have HB7 := Lib.hid (bNext HB6.out hb7)
      have HR7 := Lib.hid (BlkNext HR6.out hb7)
      have HL7 := Lib.hid (ArgsNext HL6.out hb7)
      clear hb7
      go_wp2_with fail
      refine (ball52_any (goalC f [atmC x, t]) (some ⟨gh, 0, none⟩) caph w7 HL7.out).mono ?_
      rw [← HZ.out]
      rintro e w8 ⟨⟨A8, c8, rfl, ha8⟩, hb8⟩
      have HB8 := Lib.hid (bNext HB7.out hb8)
      have HR8 := Lib.hid (BlkNext HR7.out hb8)
      have hz7 := HB7.out.size
      have hrl7 := HR7.out.lt
      have HA8 := Lib.hid ha8
      clear ha8 hb8
      have r0 := HR8.out.cell 0
      have f0 := HR8.out.frozen 0
      have r1 := HR8.out.cell 1
      have f1 := HR8.out.frozen 1
      have r2 := HR8.out.cell 2
      have f2 := HR8.out.frozen 2
      have r3 := HR8.out.cell 3
      have f3 := HR8.out.frozen 3
      have rl := HR8.out.lt
      simp at r0 r1 r2 r3
      go_wp2_with fail
      refine bodyPost_ret (v := (withC t f x).v A8 c8) (by simp only [results, Tryz.results45]; go_simp) rfl ⟨?_, ?_⟩
      · skip
        refine ⟨A8, c8, rfl, ?_⟩
        refine HA8.out.keep (fun b hb => ?_) (fun b hb => ⟨by have := hb.1; omega, by have := hb.2; simpa using this⟩)
        repeat rw [heap_setCell_other _ _ _ _ (by have := hb.1; simp; omega)]
      · repeat refine Below.setCell ?_ hrw _
        exact HB8.out
set_option maxHeartbeats 2000000 in
theorem type18_any (x : ByteArray) (t : Tm) (A : Option Addr) (c : Nat) (w : World) (ha : ArgsAt w (Old w.heap.size) A t.args) :
    Calls Tryz.prog 18 #[.string x, t.v A c] w fun e w' => NewT w (withC t { data := #[116, 121, 112, 101, 95, 101, 114, 114, 111, 114] } x) e w' ∧ Below w.heap.size w w' := by
  obtain ⟨W, HW⟩ : ∃ X, Hid (X = (w.alloc (.cells #[.int .i64 t.kind, .int .i64 t.n, .string t.name, .slice A t.args.length c] 24)).alloc (.cells #[.int .i64 0, .int .i64 0, .string { data := #[] }, .slice none 0 0] 24)) := ⟨_, rfl⟩
  have hbW : Below w.heap.size w W := by rw [HW.out]; exact (bAlloc w _).alloc (by simp) _
  obtain ⟨q, hq⟩ : ∃ q, Hid (q = w.heap.size) := ⟨_, rfl⟩
  obtain ⟨r, hr⟩ : ∃ q, Hid (q = w.heap.size + 1) := ⟨_, rfl⟩
  have hk0 : Blk W q 24 #[.int .i64 t.kind, .int .i64 t.n, .string t.name, .slice A t.args.length c] := by rw [HW.out, hq.out]; exact (Blk.new w _ _).alloc _
  have hk1 : Blk W r 24 #[.int .i64 0, .int .i64 0, .string { data := #[] }, .slice none 0 0] := by
    rw [HW.out, hr.out]
    have h1 := Blk.new (w.alloc (.cells #[.int .i64 t.kind, .int .i64 t.n, .string t.name, .slice A t.args.length c] 24)) 24 #[.int .i64 0, .int .i64 0, .string { data := #[] }, .slice none 0 0]
    rw [World.size_alloc] at h1
    exact h1
  have HA := Lib.hid ha
  have HB := Lib.hid hbW
  have HK := Lib.hid hk0
  have HR := Lib.hid hk1
  have hqr : q ≠ r := by rw [hq.out, hr.out]; omega
  have hqw : w.heap.size ≤ q := by rw [hq.out]; exact Nat.le_refl _
  have hrw : w.heap.size ≤ r := by rw [hr.out]; omega
  have e0 := hk0.cell 0
  have e1 := hk0.cell 1
  have e2 := hk0.cell 2
  have e3 := hk0.cell 3
  have el := hk0.lt
  simp at e0 e1 e2 e3
  clear ha hbW hk0 hk1
  go_enter Tryz.func18, Tryz.ntmps18
  go_upto_region 1 with fail
  rw [← HW.out, ← hr.out, ← hq.out]
  clear HW
  go_wp2_with fail
  obtain ⟨w1, hw1⟩ : ∃ X, Hid (X = W.alloc (.cells #[.string x] 9)) := ⟨_, rfl⟩
  obtain ⟨g1, hg1⟩ : ∃ q, Hid (q = W.heap.size) := ⟨_, rfl⟩
  rw [← hw1.out, ← hg1.out]
  have hb1 : Below W.heap.size W w1 := by rw [hw1.out]; exact bAlloc _ _
  have HB1 := Lib.hid (bNext HB.out hb1)
  have HR1 := Lib.hid (BlkNext HR.out hb1)
  have hk1 : Blk w1 g1 9 #[.string x] := by rw [hw1.out, hg1.out]; exact Blk.new _ _ _
  have n1 := hk1.cell 0
  simp at n1
  refine (with45_any t A c _ x g1 w1 (ArgsNext HA.out HB1.out) n1 hk1.lt).mono ?_
  clear hw1 hb1 hk1 n1 e0 e1 e2 e3 el
  rintro e w2 ⟨⟨A2, c2, rfl, ha2⟩, hb2⟩
  have HB2 := Lib.hid (bNext HB1.out hb2)
  have HR2 := Lib.hid (BlkNext HR1.out hb2)
  have hz1 := HB1.out.size
  have hrl1 := HR1.out.lt
  have HA2 := Lib.hid ha2
  clear ha2 hb2
  have r0 := HR2.out.cell 0
  have f0 := HR2.out.frozen 0
  have r1 := HR2.out.cell 1
  have f1 := HR2.out.frozen 1
  have r2 := HR2.out.cell 2
  have f2 := HR2.out.frozen 2
  have r3 := HR2.out.cell 3
  have f3 := HR2.out.frozen 3
  have rl := HR2.out.lt
  simp at r0 r1 r2 r3
  go_wp2_with fail
  refine bodyPost_ret (v := (withC t { data := #[116, 121, 112, 101, 95, 101, 114, 114, 111, 114] } x).v A2 c2) (by simp only [results, Tryz.results18]; go_simp) rfl ⟨?_, ?_⟩
  · skip
    refine ⟨A2, c2, rfl, ?_⟩
    refine HA2.out.keep (fun b hb => ?_) (fun b hb => ⟨by have := hb.1; omega, by have := hb.2; simpa using this⟩)
    repeat rw [heap_setCell_other _ _ _ _ (by have := hb.1; simp; omega)]
  · repeat refine Below.setCell ?_ hrw _
    exact HB2.out
set_option maxHeartbeats 2000000 in
theorem unk69_any (s : ByteArray) (n : Int) (w : World) : Calls Tryz.prog 69 #[.string s, .int .i64 n] w fun e w' => NewT w (unkRC s n) e w' ∧ Below w.heap.size w w' := by
  obtain ⟨W, HW⟩ : ∃ X, Hid (X = w.alloc (.cells #[.int .i64 0, .int .i64 0, .string { data := #[] }, .slice none 0 0] 24)) := ⟨_, rfl⟩
  have hbW : Below w.heap.size w W := by rw [HW.out]; exact bAlloc w _
  obtain ⟨r, hr⟩ : ∃ q, Hid (q = w.heap.size) := ⟨_, rfl⟩
  have hk1 : Blk W r 24 #[.int .i64 0, .int .i64 0, .string { data := #[] }, .slice none 0 0] := by rw [HW.out, hr.out]; exact Blk.new w _ _
  have HB := Lib.hid hbW
  have HR := Lib.hid hk1
  have hrw : w.heap.size ≤ r := by rw [hr.out]; exact Nat.le_refl _
  clear hbW hk1
  go_enter Tryz.func69, Tryz.ntmps69
  go_upto_region 1 with fail
  rw [← HW.out, ← hr.out]
  clear HW
  go_wp2_with fail
  refine (indi19_any s n W).mono ?_
  obtain ⟨y, hy⟩ : ∃ y, Hid (y = indRC s n) := ⟨_, rfl⟩
  rw [← hy.out]
  rintro e w1 ⟨⟨A1, c1, rfl, ha1⟩, hb1⟩
  have HB1 := Lib.hid (bNext HB.out hb1)
  have HR1 := Lib.hid (BlkNext HR.out hb1)
  have HA1 := Lib.hid (ha1.keep (w' := w1) (G := Old w1.heap.size) (fun _ _ => rfl) (fun _ h => h.2))
  clear ha1 hb1
  have HE := Lib.hid (show unkRC s n = withC y { data := #[116, 121, 112, 101, 95, 101, 114, 114, 111, 114] } { data := #[101, 118, 97, 108, 117, 97, 98, 108, 101] } by rw [hy.out])
  go_wp2_with fail
  refine (type18_any _ y A1 c1 w1 HA1.out).mono ?_
  rw [← HE.out]
  rintro e w2 ⟨⟨A2, c2, rfl, ha2⟩, hb2⟩
  have HB2 := Lib.hid (bNext HB1.out hb2)
  have HR2 := Lib.hid (BlkNext HR1.out hb2)
  have hz1 := HB1.out.size
  have hrl1 := HR1.out.lt
  have HA2 := Lib.hid ha2
  clear ha2 hb2
  have r0 := HR2.out.cell 0
  have f0 := HR2.out.frozen 0
  have r1 := HR2.out.cell 1
  have f1 := HR2.out.frozen 1
  have r2 := HR2.out.cell 2
  have f2 := HR2.out.frozen 2
  have r3 := HR2.out.cell 3
  have f3 := HR2.out.frozen 3
  have rl := HR2.out.lt
  simp at r0 r1 r2 r3
  go_wp2_with fail
  refine bodyPost_ret (v := (unkRC s n).v A2 c2) (by simp only [results, Tryz.results69]; go_simp) rfl ⟨?_, ?_⟩
  · skip
    refine ⟨A2, c2, rfl, ?_⟩
    refine HA2.out.keep (fun b hb => ?_) (fun b hb => ⟨by have := hb.1; omega, by have := hb.2; simpa using this⟩)
    repeat rw [heap_setCell_other _ _ _ _ (by have := hb.1; simp; omega)]
  · repeat refine Below.setCell ?_ hrw _
    exact HB2.out
end Go.Proofs.YtcagaaacfcpoeaaGreat
