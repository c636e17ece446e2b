/-
  Walks: the makers of terms and of balls.
-/
import Derived.Test.YtcagaaacfcpoeaaGreatCc
namespace Go.Proofs.YtcagaaacfcpoeaaGreat
open Go.RowKit

/-- a block with the cells of terms reads as these terms -/
theorem args_blk {w : World} {F : Nat → Prop} {b : Nat} {cs : Array Value} (rs : List Tr) (hF : F b) (h : Blk w b 24 cs) (hcs : cs = (tmCs rs).toArray) (hr : ∀ r ∈ rs, ArgsAt w F r.2.1 r.1.args) (hl : rs.length ≤ 281474976710656) : ArgsAt w F (some ⟨b, 0, none⟩) (rs.map (·.1)) := by
  subst hcs
  have hc : ∀ j u, (tmCs rs)[j]? = some u → w.cell? ⟨b, j, none⟩ = some u := fun j u hj => by
    rw [h.cell j]
    simpa using hj
  refine .row b 0 _ (fun i => ((rs[i]?).map (·.2.1)).getD none) (fun i => ((rs[i]?).map (·.2.2)).getD 0) hF (by simpa using hl) ?_ ?_
  · intro i x hx
    rw [List.getElem?_map] at hx
    cases hr : rs[i]? with
    | none => rw [hr] at hx; cases hx
    | some r =>
      rw [hr] at hx
      simp at hx
      subst hx
      obtain ⟨q0, q1, q2, q3⟩ := tmCs_at hr
      simp only [Nat.zero_add, TmCells]
      exact ⟨hc _ _ q0, hc _ _ q1, hc _ _ q2, by simpa [hr] using hc _ _ q3⟩
  · intro i x hx
    rw [List.getElem?_map] at hx
    cases hr2 : rs[i]? with
    | none => rw [hr2] at hx; cases hx
    | some r =>
      rw [hr2] at hx
      simp at hx
      subst hx
      simpa [hr2] using hr r (List.mem_of_getElem? hr2)
@[reducible] def Btw (a b : Nat) : Nat → Prop := fun x => a ≤ x ∧ x < b
theorem NewT.old {w w' : World} {x : Tm} {e : Ending} (h : NewT w x e w') : ∃ A c, e = .returned (Tm.v x A c) ∧ ArgsAt w' (Old w'.heap.size) A x.args := by
  obtain ⟨A, c, h1, h2⟩ := h
  exact ⟨A, c, h1, h2.keep (fun _ _ => rfl) (fun _ h => h.2)⟩
@[reducible] def atomC (s : ByteArray) : Tm := cloneT (.mk 2 0 s [])
@[reducible] def structC (s : ByteArray) (l : List Tm) : Tm := if l = [] then atomC s else cloneT (.mk 3 0 s l)
@[reducible] def intC (n : Int) : Tm := .mk 1 n { data := #[] } []
set_option maxHeartbeats 1000000 in
theorem atom62_any (s : ByteArray) (w : World) : Calls Tryz.prog 78 #[.string s] w fun e w' => NewT w (atomC s) e w' ∧ Below w.heap.size w w' := by
  obtain ⟨W, HW⟩ : ∃ X, Hid (X = w.alloc (.cells #[.int .i64 0, .int .i64 0, .string { data := #[] }, .slice none 0 0] 24)) := ⟨_, rfl⟩
  have hbW : Below w.heap.size w W := by rw [HW.out]; exact bAlloc w _
  obtain ⟨r, hr⟩ : ∃ q, Hid (q = w.heap.size) := ⟨_, rfl⟩
  have hk1 : Blk W r 24 #[.int .i64 0, .int .i64 0, .string { data := #[] }, .slice none 0 0] := by rw [HW.out, hr.out]; exact Blk.new w _ _
  have HB := Lib.hid hbW
  have HR := Lib.hid hk1
  have hrw : w.heap.size ≤ r := by rw [hr.out]; exact Nat.le_refl _
  clear hbW hk1
  go_enter Tryz.func78, Tryz.ntmps78
  go_upto_region 1 with fail
  rw [← HW.out, ← hr.out]
  clear HW
  go_wp2_with fail
  refine (clone40_any (.mk 2 0 s []) none 0 W (.nil _)).mono ?_
  rintro e w2 ⟨⟨A2, c2, rfl, ha2⟩, hb2⟩
  have HA2 := Lib.hid ha2
  have HB2 := Lib.hid (bNext HB.out hb2)
  have HR2 := Lib.hid (BlkNext HR.out hb2)
  have hz1 := HB.out.size
  have hrW := HR.out.lt
  clear ha2 hb2
  have r0 := HR2.out.cell 0
  have f0 := HR2.out.frozen 0
  have r1 := HR2.out.cell 1
  have f1 := HR2.out.frozen 1
  have r2 := HR2.out.cell 2
  have f2 := HR2.out.frozen 2
  have r3 := HR2.out.cell 3
  have f3 := HR2.out.frozen 3
  have rl := HR2.out.lt
  simp at r0 r1 r2 r3
  go_wp2_with fail
  refine bodyPost_ret (v := Tm.v (atomC s) A2 c2) (by simp only [results, Tryz.results78]; go_simp) rfl ⟨?_, ?_⟩
  · refine ⟨A2, c2, rfl, ?_⟩
    refine HA2.out.keep (fun b hb => ?_) (fun b hb => ⟨by have := hb.1; omega, by have := hb.2; simpa using this⟩)
    repeat rw [heap_setCell_other _ _ _ _ (by have := hb.1; simp; omega)]
  · repeat refine Below.setCell ?_ hrw _
    exact HB2.out
set_option maxHeartbeats 1000000 in
theorem int37_any (n : Int) (w : World) : Calls Tryz.prog 34 #[.int .i64 n] w fun e w' => e = .returned (Tm.v (intC n) none 0) ∧ Below w.heap.size w w' := by
  obtain ⟨W, HW⟩ : ∃ X, Hid (X = w.alloc (.cells #[.int .i64 0, .int .i64 0, .string { data := #[] }, .slice none 0 0] 24)) := ⟨_, rfl⟩
  have hbW : Below w.heap.size w W := by rw [HW.out]; exact bAlloc w _
  obtain ⟨r, hr⟩ : ∃ q, Hid (q = w.heap.size) := ⟨_, rfl⟩
  have hk1 : Blk W r 24 #[.int .i64 0, .int .i64 0, .string { data := #[] }, .slice none 0 0] := by rw [HW.out, hr.out]; exact Blk.new w _ _
  have HB := Lib.hid hbW
  have HR := Lib.hid hk1
  have hrw : w.heap.size ≤ r := by rw [hr.out]; exact Nat.le_refl _
  clear hbW hk1
  go_enter Tryz.func34, Tryz.ntmps34
  go_upto_region 1 with fail
  rw [← HW.out, ← hr.out]
  clear HW
  have r0 := HR.out.cell 0
  have f0 := HR.out.frozen 0
  have r1 := HR.out.cell 1
  have f1 := HR.out.frozen 1
  have r2 := HR.out.cell 2
  have f2 := HR.out.frozen 2
  have r3 := HR.out.cell 3
  have f3 := HR.out.frozen 3
  have rl := HR.out.lt
  simp at r0 r1 r2 r3
  go_wp2_with fail
  refine bodyPost_ret (v := Tm.v (intC n) none 0) (by simp only [results, Tryz.results34]; go_simp; exact ⟨rfl, rfl, rfl, rfl⟩) rfl ⟨rfl, ?_⟩
  repeat refine Below.setCell ?_ hrw _
  exact HB.out
set_option maxHeartbeats 2000000 in
theorem struct36_any (s : ByteArray) (l : List Tm) (A : Option Addr) (c : Nat) (w : World) (ha : ArgsAt w (Old w.heap.size) A l) : Calls Tryz.prog 33 #[.string s, .slice A l.length c] w fun e w' => NewT w (structC s l) e w' ∧ Below w.heap.size w w' := by
  have HA := Lib.hid ha
  have hlen := ha.len
  clear ha
  obtain ⟨W, HW⟩ : ∃ X, Hid (X = w.alloc (.cells #[.int .i64 0, .int .i64 0, .string { data := #[] }, .slice none 0 0] 24)) := ⟨_, rfl⟩
  have hbW : Below w.heap.size w W := by rw [HW.out]; exact bAlloc w _
  obtain ⟨r, hr⟩ : ∃ q, Hid (q = w.heap.size) := ⟨_, rfl⟩
  have hk1 : Blk W r 24 #[.int .i64 0, .int .i64 0, .string { data := #[] }, .slice none 0 0] := by rw [HW.out, hr.out]; exact Blk.new w _ _
  have HB := Lib.hid hbW
  have HR := Lib.hid hk1
  have hrw : w.heap.size ≤ r := by rw [hr.out]; exact Nat.le_refl _
  clear hbW hk1
  go_enter Tryz.func33, Tryz.ntmps33
  go_upto_region 1 with fail
  rw [← HW.out, ← hr.out]
  clear HW
  by_cases hl : l = []
  · have HE := Lib.hid (show structC s l = atomC s from if_pos hl)
    have hl0 : l.length = 0 := by rw [hl]; rfl
    clear hl
    go_wp2_with fail
    refine (atom62_any s W).mono ?_
    rintro e w2 ⟨⟨A2, c2, rfl, ha2⟩, hb2⟩
    have HA2 := Lib.hid ha2
    have HB2 := Lib.hid (bNext HB.out hb2)
    have HR2 := Lib.hid (BlkNext HR.out hb2)
    have hz1 := HB.out.size
    have hrW := HR.out.lt
    clear ha2 hb2
    have r0 := HR2.out.cell 0
    have f0 := HR2.out.frozen 0
    have r1 := HR2.out.cell 1
    have f1 := HR2.out.frozen 1
    have r2 := HR2.out.cell 2
    have f2 := HR2.out.frozen 2
    have r3 := HR2.out.cell 3
    have f3 := HR2.out.frozen 3
    have rl := HR2.out.lt
    simp at r0 r1 r2 r3
    go_wp2_with fail
    refine bodyPost_ret (v := Tm.v (atomC s) A2 c2) (by simp only [results, Tryz.results33]; go_simp) rfl ⟨?_, ?_⟩
    · rw [HE.out]; refine ⟨A2, c2, rfl, ?_⟩
      refine HA2.out.keep (fun b hb => ?_) (fun b hb => ⟨by have := hb.1; omega, by have := hb.2; simpa using this⟩)
      repeat rw [heap_setCell_other _ _ _ _ (by have := hb.1; simp; omega)]
    · repeat refine Below.setCell ?_ hrw _
      exact HB2.out
  · have HE := Lib.hid (show structC s l = cloneT (.mk 3 0 s l) from if_neg hl)
    have hl0 : 1 ≤ l.length := by cases l with | nil => exact absurd rfl hl | cons _ _ => simp
    clear hl
    go_wp2_with fail
    refine (clone40_any (.mk 3 0 s l) A c W (ArgsNext HA.out HB.out)).mono ?_
    rintro e w2 ⟨⟨A2, c2, rfl, ha2⟩, hb2⟩
    have HA2 := Lib.hid ha2
    have HB2 := Lib.hid (bNext HB.out hb2)
    have HR2 := Lib.hid (BlkNext HR.out hb2)
    have hz1 := HB.out.size
    have hrW := HR.out.lt
    clear ha2 hb2
    have r0 := HR2.out.cell 0
    have f0 := HR2.out.frozen 0
    have r1 := HR2.out.cell 1
    have f1 := HR2.out.frozen 1
    have r2 := HR2.out.cell 2
    have f2 := HR2.out.frozen 2
    have r3 := HR2.out.cell 3
    have f3 := HR2.out.frozen 3
    have rl := HR2.out.lt
    simp at r0 r1 r2 r3
    go_wp2_with fail
    refine bodyPost_ret (v := Tm.v (cloneT (.mk 3 0 s l)) A2 c2) (by simp only [results, Tryz.results33]; go_simp) rfl ⟨?_, ?_⟩
    · rw [HE.out]; refine ⟨A2, c2, rfl, ?_⟩
      refine HA2.out.keep (fun b hb => ?_) (fun b hb => ⟨by have := hb.1; omega, by have := hb.2; simpa using this⟩)
      repeat rw [heap_setCell_other _ _ _ _ (by have := hb.1; simp; omega)]
    · repeat refine Below.setCell ?_ hrw _
      exact HB2.out
end Go.Proofs.YtcagaaacfcpoeaaGreat
