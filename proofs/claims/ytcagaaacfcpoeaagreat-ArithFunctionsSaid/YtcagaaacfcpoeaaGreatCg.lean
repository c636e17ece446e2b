/-
  Walks: the balls of errors.
-/
import Derived.Test.YtcagaaacfcpoeaaGreatCf
import Derived.Deep.AppendLies
namespace Go.Proofs.YtcagaaacfcpoeaaGreat
open Go.RowKit

@[reducible] def raiseC (name : ByteArray) (l : List Tm) : Tm := structC { data := #[101, 114, 114, 111, 114] } [structC name l, atomC { data := #[91, 93] }]
@[reducible] def namedC (name x : ByteArray) : Tm := if 100 < x.size then zeroT else raiseC name [atomC x]
@[reducible] def evalC (x : ByteArray) : Tm := namedC { data := #[101, 118, 97, 108, 117, 97, 116, 105, 111, 110, 95, 101, 114, 114, 111, 114] } x
@[reducible] def instC : Tm := raiseC { data := #[105, 110, 115, 116, 97, 110, 116, 105, 97, 116, 105, 111, 110, 95, 101, 114, 114, 111, 114] } []
@[reducible] def indC (s : ByteArray) (a : Int) : Tm := if 100 < s.size ∨ a < 0 ∨ 8 < a then zeroT else structC { data := #[47] } [atomC s, intC a]
@[reducible] def aboutC (t : Tm) (name x : ByteArray) : Tm := if validT t = false ∨ 100 < x.size then zeroT else raiseC name [atomC x, if 2000 < 4 + min (cnt t : Int) 2001 then atomC { data := #[46, 46, 46] } else t]
@[reducible] def typeC (x : ByteArray) (t : Tm) : Tm := aboutC t { data := #[116, 121, 112, 101, 95, 101, 114, 114, 111, 114] } x
theorem args_one {w : World} {F G : Nat → Prop} {x : Tm} {A : Option Addr} {c : Nat} (h : ArgsAt w F A x.args) (hF : ∀ b, F b → b < w.heap.size ∧ G b) (hG : G w.heap.size) :
    ArgsAt (w.alloc (.cells #[.int .i64 (x).kind, .int .i64 (x).n, .string (x).name, .slice A (x).args.length c] 24)) G (some ⟨w.heap.size, 0, none⟩) [x] :=
  args_blk [(x, A, c)] hG (Blk.new w 24 _) rfl (fun r hr => by simp at hr; subst hr; exact h.keep (fun b hb => Below.heap_alloc w _ b (hF b hb).1) (fun b hb => (hF b hb).2)) (by simp)
theorem args_two {w : World} {F G : Nat → Prop} {x y : Tm} {A B : Option Addr} {c d : Nat} (h : ArgsAt w F A x.args) (h2 : ArgsAt w F B y.args) (hF : ∀ b, F b → b < w.heap.size ∧ G b) (hG : G w.heap.size) :
    ArgsAt (w.alloc (.cells #[.int .i64 (x).kind, .int .i64 (x).n, .string (x).name, .slice A (x).args.length c, .int .i64 (y).kind, .int .i64 (y).n, .string (y).name, .slice B (y).args.length d] 24)) G (some ⟨w.heap.size, 0, none⟩) [x, y] :=
  args_blk [(x, A, c), (y, B, d)] hG (Blk.new w 24 _) rfl (fun r hr => by
    simp at hr
    rcases hr with rfl | rfl
    · exact h.keep (fun b hb => Below.heap_alloc w _ b (hF b hb).1) (fun b hb => (hF b hb).2)
    · exact h2.keep (fun b hb => Below.heap_alloc w _ b (hF b hb).1) (fun b hb => (hF b hb).2)) (by simp)
set_option maxHeartbeats 2000000 in
theorem raise71_any (s : ByteArray) (l : List Tm) (A : Option Addr) (c : Nat) (w : World) (ha : ArgsAt w (Old w.heap.size) A l) : Calls Tryz.prog 92 #[.string s, .slice A l.length c] w fun e w' => NewT w (raiseC s l) e w' ∧ Below w.heap.size w w' := by
  have HA := Lib.hid ha
  clear ha
  obtain ⟨W, HW⟩ : ∃ X, Hid (X = w.alloc (.cells #[.int .i64 0, .int .i64 0, .string { data := #[] }, .slice none 0 0] 24)) := ⟨_, rfl⟩
  have hbW : Below w.heap.size w W := by rw [HW.out]; exact bAlloc w _
  obtain ⟨r, hr⟩ : ∃ q, Hid (q = w.heap.size) := ⟨_, rfl⟩
  have hk1 : Blk W r 24 #[.int .i64 0, .int .i64 0, .string { data := #[] }, .slice none 0 0] := by rw [HW.out, hr.out]; exact Blk.new w _ _
  have HB0 := Lib.hid hbW
  have HR0 := Lib.hid hk1
  have hrw : w.heap.size ≤ r := by rw [hr.out]; exact Nat.le_refl _
  clear hbW hk1
  go_enter Tryz.func92, Tryz.ntmps92
  go_upto_region 1 with fail
  rw [← HW.out, ← hr.out]
  clear HW
  go_wp2_with fail
  refine (struct36_any s l A c W (ArgsNext HA.out HB0.out)).mono ?_
  rintro e w1 ⟨⟨A1, c1, rfl, ha1⟩, hb1⟩
  have hz0 := HB0.out.size
  have hs1 : W.heap.size ≤ w1.heap.size := hb1.size
  have HA1 := Lib.hid (ha1.keep (w' := w1) (G := Btw W.heap.size w1.heap.size) (fun _ _ => rfl) (fun b hb => ⟨by have := hb.1; omega, hb.2⟩))
  have HB1 := Lib.hid (bNext HB0.out hb1)
  have HR1 := Lib.hid (BlkNext HR0.out hb1)
  clear ha1 hb1
  go_wp2_with fail
  refine (atom62_any _ w1).mono ?_
  rintro e w2 ⟨⟨A2, c2, rfl, ha2⟩, hb2⟩
  have hz1 := HB1.out.size
  have hs2 : W.heap.size ≤ w2.heap.size := Nat.le_trans hs1 hb2.size
  have HA2 := Lib.hid (ha2.keep (w' := w2) (G := Btw W.heap.size w2.heap.size) (fun _ _ => rfl) (fun b hb => ⟨by have := hb.1; omega, hb.2⟩))
  have HA12 := Lib.hid (HA1.out.keep (w' := w2) (G := Btw W.heap.size w2.heap.size) (fun b hb => hb2.block b hb.2) (fun b hb => ⟨hb.1, Nat.lt_of_lt_of_le hb.2 hb2.size⟩))
  have HB2 := Lib.hid (bNext HB1.out hb2)
  have HR2 := Lib.hid (BlkNext HR1.out hb2)
  clear ha2 hb2
  go_wp2_with fail
  refine (struct36_any _ [structC s l, atomC { data := #[91, 93] }] (some ⟨w2.heap.size, 0, none⟩) 2 _ (args_two (F := Btw W.heap.size w2.heap.size) HA12.out HA2.out (fun b hb => ⟨hb.2, by have := hb.2; simp; omega⟩) (by simp))).mono ?_
  rintro e w3 ⟨⟨A3, c3, rfl, ha3⟩, hb3⟩
  have hz2 := HB2.out.size
  have hs3 : W.heap.size ≤ w3.heap.size := Nat.le_trans hs2 (by have := hb3.size; simp at this; omega)
  have HA3 := Lib.hid (ha3.keep (w' := w3) (G := Btw W.heap.size w3.heap.size) (fun _ _ => rfl) (fun b hb => ⟨by have := hb.1; simp at this; omega, hb.2⟩))
  have HB3 := Lib.hid (bNext (bNext HB2.out (bAlloc _ _)) hb3)
  have HR3 := Lib.hid (BlkNext (HR2.out.alloc _) hb3)
  clear ha3 hb3
  have hz3 := HB3.out.size
  have hrW := HR0.out.lt
  have r0 := HR3.out.cell 0
  have f0 := HR3.out.frozen 0
  have r1 := HR3.out.cell 1
  have f1 := HR3.out.frozen 1
  have r2 := HR3.out.cell 2
  have f2 := HR3.out.frozen 2
  have r3 := HR3.out.cell 3
  have f3 := HR3.out.frozen 3
  have rl := HR3.out.lt
  simp at r0 r1 r2 r3
  go_wp2_with fail
  refine bodyPost_ret (v := Tm.v (raiseC s l) A3 c3) (by simp only [results, Tryz.results92]; go_simp) rfl ⟨?_, ?_⟩
  · refine ⟨A3, c3, rfl, ?_⟩
    refine HA3.out.keep (fun b hb => ?_) (fun b hb => ⟨by have := hb.1; omega, by have := hb.2; simpa using this⟩)
    repeat rw [heap_setCell_other _ _ _ _ (by have := hb.1; simp; omega)]
  · repeat refine Below.setCell ?_ hrw _
    exact HB3.out
set_option maxHeartbeats 2000000 in
theorem inst45_any (w : World) : Calls Tryz.prog 61 #[] w fun e w' => NewT w instC e w' ∧ Below w.heap.size w w' := by
  obtain ⟨W, HW⟩ : ∃ X, Hid (X = w.alloc (.cells #[.int .i64 0, .int .i64 0, .string { data := #[] }, .slice none 0 0] 24)) := ⟨_, rfl⟩
  have hbW : Below w.heap.size w W := by rw [HW.out]; exact bAlloc w _
  obtain ⟨r, hr⟩ : ∃ q, Hid (q = w.heap.size) := ⟨_, rfl⟩
  have hk1 : Blk W r 24 #[.int .i64 0, .int .i64 0, .string { data := #[] }, .slice none 0 0] := by rw [HW.out, hr.out]; exact Blk.new w _ _
  have HB0 := Lib.hid hbW
  have HR0 := Lib.hid hk1
  have hrw : w.heap.size ≤ r := by rw [hr.out]; exact Nat.le_refl _
  clear hbW hk1
  go_enter Tryz.func61, Tryz.ntmps61
  go_upto_region 1 with fail
  rw [← HW.out, ← hr.out]
  clear HW
  go_wp2_with fail
  refine (raise71_any _ [] none 0 W (.nil _)).mono ?_
  rintro e w1 ⟨⟨A1, c1, rfl, ha1⟩, hb1⟩
  have hz0 := HB0.out.size
  have hs1 : W.heap.size ≤ w1.heap.size := hb1.size
  have HA1 := Lib.hid (ha1.keep (w' := w1) (G := Btw W.heap.size w1.heap.size) (fun _ _ => rfl) (fun b hb => ⟨by have := hb.1; omega, hb.2⟩))
  have HB1 := Lib.hid (bNext HB0.out hb1)
  have HR1 := Lib.hid (BlkNext HR0.out hb1)
  clear ha1 hb1
  have hz1 := HB1.out.size
  have hrW := HR0.out.lt
  have r0 := HR1.out.cell 0
  have f0 := HR1.out.frozen 0
  have r1 := HR1.out.cell 1
  have f1 := HR1.out.frozen 1
  have r2 := HR1.out.cell 2
  have f2 := HR1.out.frozen 2
  have r3 := HR1.out.cell 3
  have f3 := HR1.out.frozen 3
  have rl := HR1.out.lt
  simp at r0 r1 r2 r3
  go_wp2_with fail
  refine bodyPost_ret (v := Tm.v (instC) A1 c1) (by simp only [results, Tryz.results61]; go_simp) rfl ⟨?_, ?_⟩
  · refine ⟨A1, c1, rfl, ?_⟩
    refine HA1.out.keep (fun b hb => ?_) (fun b hb => ⟨by have := hb.1; omega, by have := hb.2; simpa using this⟩)
    repeat rw [heap_setCell_other _ _ _ _ (by have := hb.1; simp; omega)]
  · repeat refine Below.setCell ?_ hrw _
    exact HB1.out
set_option maxHeartbeats 2000000 in
theorem named75_any (s x : ByteArray) (w : World) (hx : x.size < 2 ^ 62) : Calls Tryz.prog 96 #[.string s, .string x] w fun e w' => NewT w (namedC s x) e w' ∧ Below w.heap.size w w' := by
  obtain ⟨W, HW⟩ : ∃ X, Hid (X = w.alloc (.cells #[.int .i64 0, .int .i64 0, .string { data := #[] }, .slice none 0 0] 24)) := ⟨_, rfl⟩
  have hbW : Below w.heap.size w W := by rw [HW.out]; exact bAlloc w _
  obtain ⟨r, hr⟩ : ∃ q, Hid (q = w.heap.size) := ⟨_, rfl⟩
  have hk1 : Blk W r 24 #[.int .i64 0, .int .i64 0, .string { data := #[] }, .slice none 0 0] := by rw [HW.out, hr.out]; exact Blk.new w _ _
  have HB0 := Lib.hid hbW
  have HR0 := Lib.hid hk1
  have hrw : w.heap.size ≤ r := by rw [hr.out]; exact Nat.le_refl _
  clear hbW hk1
  go_enter Tryz.func96, Tryz.ntmps96
  go_upto_region 1 with fail
  rw [← HW.out, ← hr.out]
  clear HW
  by_cases hl : 100 < x.size
  · have HE := Lib.hid (show namedC s x = zeroT from if_pos hl)
    have r0 := HR0.out.cell 0
    have f0 := HR0.out.frozen 0
    have r1 := HR0.out.cell 1
    have f1 := HR0.out.frozen 1
    have r2 := HR0.out.cell 2
    have f2 := HR0.out.frozen 2
    have r3 := HR0.out.cell 3
    have f3 := HR0.out.frozen 3
    have rl := HR0.out.lt
    simp at r0 r1 r2 r3
    go_wp2_with fail
    refine bodyPost_ret (v := Tm.v zeroT none 0) (by simp only [results, Tryz.results96]; go_simp; exact ⟨rfl, rfl, rfl, rfl⟩) rfl ⟨by rw [HE.out]; exact ⟨none, 0, rfl, .nil _⟩, ?_⟩
    repeat refine Below.setCell ?_ hrw _
    exact HB0.out
  · have HE := Lib.hid (show namedC s x = raiseC s [atomC x] from if_neg hl)
    go_wp2_with fail
    refine (atom62_any _ W).mono ?_
    rintro e w1 ⟨⟨A1, c1, rfl, ha1⟩, hb1⟩
    have hz0 := HB0.out.size
    have hs1 : W.heap.size ≤ w1.heap.size := hb1.size
    have HA1 := Lib.hid (ha1.keep (w' := w1) (G := Btw W.heap.size w1.heap.size) (fun _ _ => rfl) (fun b hb => ⟨by have := hb.1; omega, hb.2⟩))
    have HB1 := Lib.hid (bNext HB0.out hb1)
    have HR1 := Lib.hid (BlkNext HR0.out hb1)
    clear ha1 hb1
    go_wp2_with fail
    refine (raise71_any s [atomC x] (some ⟨w1.heap.size, 0, none⟩) 1 _ (args_one (F := Btw W.heap.size w1.heap.size) HA1.out (fun b hb => ⟨hb.2, by have := hb.2; simp; omega⟩) (by simp))).mono ?_
    rintro e w2 ⟨⟨A2, c2, rfl, ha2⟩, hb2⟩
    have hz1 := HB1.out.size
    have hs2 : W.heap.size ≤ w2.heap.size := Nat.le_trans hs1 (by have := hb2.size; simp at this; omega)
    have HA2 := Lib.hid (ha2.keep (w' := w2) (G := Btw W.heap.size w2.heap.size) (fun _ _ => rfl) (fun b hb => ⟨by have := hb.1; simp at this; omega, hb.2⟩))
    have HB2 := Lib.hid (bNext (bNext HB1.out (bAlloc _ _)) hb2)
    have HR2 := Lib.hid (BlkNext (HR1.out.alloc _) hb2)
    clear ha2 hb2
    have hz2 := HB2.out.size
    have hrW := HR0.out.lt
    have r0 := HR2.out.cell 0
    have f0 := HR2.out.frozen 0
    have r1 := HR2.out.cell 1
    have f1 := HR2.out.frozen 1
    have r2 := HR2.out.cell 2
    have f2 := HR2.out.frozen 2
    have r3 := HR2.out.cell 3
    have f3 := HR2.out.frozen 3
    have rl := HR2.out.lt
    simp at r0 r1 r2 r3
    go_wp2_with fail
    refine bodyPost_ret (v := Tm.v (raiseC s [atomC x]) A2 c2) (by simp only [results, Tryz.results96]; go_simp) rfl ⟨?_, ?_⟩
    · rw [HE.out]; refine ⟨A2, c2, rfl, ?_⟩
      refine HA2.out.keep (fun b hb => ?_) (fun b hb => ⟨by have := hb.1; omega, by have := hb.2; simpa using this⟩)
      repeat rw [heap_setCell_other _ _ _ _ (by have := hb.1; simp; omega)]
    · repeat refine Below.setCell ?_ hrw _
      exact HB2.out
set_option maxHeartbeats 2000000 in
theorem eval51_any (x : ByteArray) (w : World) (hx : x.size < 2 ^ 62) : Calls Tryz.prog 67 #[.string x] w fun e w' => NewT w (evalC x) e w' ∧ Below w.heap.size w w' := by
  obtain ⟨W, HW⟩ : ∃ X, Hid (X = w.alloc (.cells #[.int .i64 0, .int .i64 0, .string { data := #[] }, .slice none 0 0] 24)) := ⟨_, rfl⟩
  have hbW : Below w.heap.size w W := by rw [HW.out]; exact bAlloc w _
  obtain ⟨r, hr⟩ : ∃ q, Hid (q = w.heap.size) := ⟨_, rfl⟩
  have hk1 : Blk W r 24 #[.int .i64 0, .int .i64 0, .string { data := #[] }, .slice none 0 0] := by rw [HW.out, hr.out]; exact Blk.new w _ _
  have HB0 := Lib.hid hbW
  have HR0 := Lib.hid hk1
  have hrw : w.heap.size ≤ r := by rw [hr.out]; exact Nat.le_refl _
  clear hbW hk1
  go_enter Tryz.func67, Tryz.ntmps67
  go_upto_region 1 with fail
  rw [← HW.out, ← hr.out]
  clear HW
  go_wp2_with fail
  refine (named75_any _ x W hx).mono ?_
  rintro e w1 ⟨⟨A1, c1, rfl, ha1⟩, hb1⟩
  have hz0 := HB0.out.size
  have hs1 : W.heap.size ≤ w1.heap.size := hb1.size
  have HA1 := Lib.hid (ha1.keep (w' := w1) (G := Btw W.heap.size w1.heap.size) (fun _ _ => rfl) (fun b hb => ⟨by have := hb.1; omega, hb.2⟩))
  have HB1 := Lib.hid (bNext HB0.out hb1)
  have HR1 := Lib.hid (BlkNext HR0.out hb1)
  clear ha1 hb1
  have hz1 := HB1.out.size
  have hrW := HR0.out.lt
  have r0 := HR1.out.cell 0
  have f0 := HR1.out.frozen 0
  have r1 := HR1.out.cell 1
  have f1 := HR1.out.frozen 1
  have r2 := HR1.out.cell 2
  have f2 := HR1.out.frozen 2
  have r3 := HR1.out.cell 3
  have f3 := HR1.out.frozen 3
  have rl := HR1.out.lt
  simp at r0 r1 r2 r3
  go_wp2_with fail
  refine bodyPost_ret (v := Tm.v (evalC x) A1 c1) (by simp only [results, Tryz.results67]; go_simp) rfl ⟨?_, ?_⟩
  · refine ⟨A1, c1, rfl, ?_⟩
    refine HA1.out.keep (fun b hb => ?_) (fun b hb => ⟨by have := hb.1; omega, by have := hb.2; simpa using this⟩)
    repeat rw [heap_setCell_other _ _ _ _ (by have := hb.1; simp; omega)]
  · repeat refine Below.setCell ?_ hrw _
    exact HB1.out
set_option maxHeartbeats 2000000 in
theorem ind48_any (s : ByteArray) (a : Int) (w : World) (hx : s.size < 2 ^ 62) : Calls Tryz.prog 64 #[.string s, .int .i64 a] w fun e w' => NewT w (indC s a) e w' ∧ Below w.heap.size w w' := by
  obtain ⟨W, HW⟩ : ∃ X, Hid (X = w.alloc (.cells #[.int .i64 0, .int .i64 0, .string { data := #[] }, .slice none 0 0] 24)) := ⟨_, rfl⟩
  have hbW : Below w.heap.size w W := by rw [HW.out]; exact bAlloc w _
  obtain ⟨r, hr⟩ : ∃ q, Hid (q = w.heap.size) := ⟨_, rfl⟩
  have hk1 : Blk W r 24 #[.int .i64 0, .int .i64 0, .string { data := #[] }, .slice none 0 0] := by rw [HW.out, hr.out]; exact Blk.new w _ _
  have HB0 := Lib.hid hbW
  have HR0 := Lib.hid hk1
  have hrw : w.heap.size ≤ r := by rw [hr.out]; exact Nat.le_refl _
  clear hbW hk1
  go_enter Tryz.func64, Tryz.ntmps64
  go_upto_region 1 with fail
  rw [← HW.out, ← hr.out]
  clear HW
  by_cases hl : 100 < s.size ∨ a < 0 ∨ 8 < a
  · have HE := Lib.hid (show indC s a = zeroT from if_pos hl)
    have r0 := HR0.out.cell 0
    have f0 := HR0.out.frozen 0
    have r1 := HR0.out.cell 1
    have f1 := HR0.out.frozen 1
    have r2 := HR0.out.cell 2
    have f2 := HR0.out.frozen 2
    have r3 := HR0.out.cell 3
    have f3 := HR0.out.frozen 3
    have rl := HR0.out.lt
    simp at r0 r1 r2 r3
    have e1 : (decide (100 < s.size) || decide (a < 0) || decide (8 < a)) = true := by simp; omega
    clear hl
    by_cases h1 : 100 < s.size
    · go_wp2_with fail
      refine bodyPost_ret (v := Tm.v zeroT none 0) (by simp only [results, Tryz.results64]; go_simp; exact ⟨rfl, rfl, rfl, rfl⟩) rfl ⟨by rw [HE.out]; exact ⟨none, 0, rfl, .nil _⟩, ?_⟩
      repeat refine Below.setCell ?_ hrw _
      exact HB0.out
    · by_cases h2 : a < 0
      · go_wp2_with fail
        refine bodyPost_ret (v := Tm.v zeroT none 0) (by simp only [results, Tryz.results64]; go_simp; exact ⟨rfl, rfl, rfl, rfl⟩) rfl ⟨by rw [HE.out]; exact ⟨none, 0, rfl, .nil _⟩, ?_⟩
        repeat refine Below.setCell ?_ hrw _
        exact HB0.out
      · have h3 : 8 < a := by simp at e1; omega
        go_wp2_with fail
        refine bodyPost_ret (v := Tm.v zeroT none 0) (by simp only [results, Tryz.results64]; go_simp; exact ⟨rfl, rfl, rfl, rfl⟩) rfl ⟨by rw [HE.out]; exact ⟨none, 0, rfl, .nil _⟩, ?_⟩
        repeat refine Below.setCell ?_ hrw _
        exact HB0.out
  · have HE := Lib.hid (show indC s a = structC { data := #[47] } [atomC s, intC a] from if_neg hl)
    have h1 : ¬ 100 < s.size := by omega
    have h2 : ¬ a < 0 := by omega
    have h3 : ¬ 8 < a := by omega
    clear hl
    go_wp2_with fail
    refine (atom62_any _ W).mono ?_
    rintro e w1 ⟨⟨A1, c1, rfl, ha1⟩, hb1⟩
    have hz0 := HB0.out.size
    have hs1 : W.heap.size ≤ w1.heap.size := hb1.size
    have HA1 := Lib.hid (ha1.keep (w' := w1) (G := Btw W.heap.size w1.heap.size) (fun _ _ => rfl) (fun b hb => ⟨by have := hb.1; omega, hb.2⟩))
    have HB1 := Lib.hid (bNext HB0.out hb1)
    have HR1 := Lib.hid (BlkNext HR0.out hb1)
    clear ha1 hb1
    go_wp2_with fail
    refine (int37_any a w1).mono ?_
    rintro e w2 ⟨rfl, hb2⟩
    have HA2 := Lib.hid (HA1.out.keep (w' := w2) (G := Btw W.heap.size w2.heap.size) (fun b hb => hb2.block b hb.2) (fun b hb => ⟨hb.1, Nat.lt_of_lt_of_le hb.2 hb2.size⟩))
    have hz1 := HB1.out.size
    have hs2 : W.heap.size ≤ w2.heap.size := Nat.le_trans hs1 hb2.size
    have HB2 := Lib.hid (bNext HB1.out hb2)
    have HR2 := Lib.hid (BlkNext HR1.out hb2)
    clear hb2
    go_wp2_with fail
    refine (struct36_any _ [atomC s, intC a] (some ⟨w2.heap.size, 0, none⟩) 2 _ (args_two (F := Btw W.heap.size w2.heap.size) (y := intC a) (B := none) (d := 0) HA2.out (.nil _) (fun b hb => ⟨hb.2, by have := hb.2; simp; omega⟩) (by simp))).mono ?_
    rintro e w3 ⟨⟨A3, c3, rfl, ha3⟩, hb3⟩
    have hz2 := HB2.out.size
    have hs3 : W.heap.size ≤ w3.heap.size := Nat.le_trans hs2 (by have := hb3.size; simp at this; omega)
    have HA3 := Lib.hid (ha3.keep (w' := w3) (G := Btw W.heap.size w3.heap.size) (fun _ _ => rfl) (fun b hb => ⟨by have := hb.1; simp at this; omega, hb.2⟩))
    have HB3 := Lib.hid (bNext (bNext HB2.out (bAlloc _ _)) hb3)
    have HR3 := Lib.hid (BlkNext (HR2.out.alloc _) hb3)
    clear ha3 hb3
    have hz3 := HB3.out.size
    have hrW := HR0.out.lt
    have r0 := HR3.out.cell 0
    have f0 := HR3.out.frozen 0
    have r1 := HR3.out.cell 1
    have f1 := HR3.out.frozen 1
    have r2 := HR3.out.cell 2
    have f2 := HR3.out.frozen 2
    have r3 := HR3.out.cell 3
    have f3 := HR3.out.frozen 3
    have rl := HR3.out.lt
    simp at r0 r1 r2 r3
    go_wp2_with fail
    refine bodyPost_ret (v := Tm.v (structC { data := #[47] } [atomC s, intC a]) A3 c3) (by simp only [results, Tryz.results64]; go_simp) rfl ⟨?_, ?_⟩
    · rw [HE.out]; refine ⟨A3, c3, rfl, ?_⟩
      refine HA3.out.keep (fun b hb => ?_) (fun b hb => ⟨by have := hb.1; omega, by have := hb.2; simpa using this⟩)
      repeat rw [heap_setCell_other _ _ _ _ (by have := hb.1; simp; omega)]
    · repeat refine Below.setCell ?_ hrw _
      exact HB3.out
end Go.Proofs.YtcagaaacfcpoeaaGreat
