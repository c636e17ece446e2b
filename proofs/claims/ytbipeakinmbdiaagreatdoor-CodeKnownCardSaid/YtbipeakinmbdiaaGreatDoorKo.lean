/-
  Walk: the instruction of a reader. Walks: a reader of a line is made; the opcode of a name; a name cut off. Walk: the opcode of a name.
-/
import Derived.Test.YtbipeakinmbdiaaGreatDoorKn
import Derived.Test.YtbipeakinmbdiaaGreatDoorKc
import Derived.Laws.EntriesVeiled
namespace Go.Proofs.YtbipeakinmbdiaaGreatDoor
section
open Go.RowKit

theorem RdAt.iter {w : World} {bl bx : Nat} {s : List UInt8} (h : RdAt w bl bx s) {it : Nat} (hl : bl < it) (hx : bx < it) (t : ByteArray) (j : Nat) : RdAt (w.iterAt it t j) bl bx s := by
  refine ⟨(Lib.iterAt_other _ _ _ _ _ (by omega)).trans h.ln, (Lib.iterAt_other _ _ _ _ _ (by omega)).trans h.fs, h.ne, h.sz, ?_⟩
  obtain ⟨W0, h1, h2, h3⟩ := h.env
  exact ⟨W0, h1, h2, Lib.below_iterAt h3 (by omega) _ _⟩
theorem KeptQ.iter {q : Nat} {w w1 : World} (h : KeptQ q w w1) {it : Nat} (hi : w.heap.size ≤ it) (t : ByteArray) (j : Nat) : KeptQ q w (w1.iterAt it t j) :=
  ⟨h.os, h.tape, h.output, by rw [Lib.iterAt_size]; exact h.size, fun i h1 h2 => (Lib.iterAt_other _ _ _ _ _ (by omega)).trans (h.block i h1 h2)⟩
@[reducible] def zIn : In := ⟨0, 0, 0, 0, ⟨#[]⟩, 0⟩
/-- where the reading of an instruction stands -/
structure Ii (w wr : World) (bl bx q rr xx it : Nat) (s : ByteArray) (y : In) (k : Nat) (u : List UInt8) : Prop where
  rd : RdAt wr bl bx u
  kp : KeptQ bl w wr
  bq : Blk wr q 81 (rdCs bl bx)
  br : BoxI wr rr zIn
  bi : BoxI wr xx y
  hi : wr.heap[it]? = some (.stringIter s k)
  pl : ((bl < q ∧ bx < q) ∧ (bl < rr ∧ bx < rr) ∧ (bl < xx ∧ bx < xx) ∧ (bl < it ∧ bx < it)) ∧ (q ≠ rr ∧ q ≠ xx ∧ q ≠ it ∧ rr ≠ xx ∧ rr ≠ it ∧ xx ≠ it) ∧ (w.heap.size ≤ q ∧ w.heap.size ≤ rr ∧ w.heap.size ≤ xx ∧ w.heap.size ≤ it)
section
variable {w wr w2 : World} {bl bx q rr xx it : Nat} {s : ByteArray} {y y' : In} {k j : Nat} {u u' : List UInt8}
theorem Ii.step (h : Ii w wr bl bx q rr xx it s y k u) : Ii w (wr.iterAt it s j) bl bx q rr xx it s y j u := by
  have hp := h.pl
  exact ⟨h.rd.iter (by omega) (by omega) _ _, h.kp.iter (by omega) _ _, (Lib.iterAt_other _ _ _ _ _ (by omega)).trans h.bq, (Lib.iterAt_other _ _ _ _ _ (by omega)).trans h.br, (Lib.iterAt_other _ _ _ _ _ (by omega)).trans h.bi, Lib.iterAt_heap _ _ _ _ _ h.hi, h.pl⟩
theorem Ii.next (h : Ii w wr bl bx q rr xx it s y k u) (hk : KeptQ bl wr w2) (hr : RdAt w2 bl bx u') : Ii w w2 bl bx q rr xx it s y k u' := by
  have hp := h.pl
  exact ⟨hr, h.kp.trans hk, hk.blk h.bq (by omega), hk.blk h.br (by omega), hk.blk h.bi (by omega), (hk.block it (Array.getElem?_eq_some_iff.1 h.hi).1 (by omega)).trans h.hi, h.pl⟩
theorem Ii.set (h : Ii w wr bl bx q rr xx it s y k u) {i : Nat} {v : Value} (hb : BoxI (wr.setCell ⟨xx, i, none⟩ v) xx y') : Ii w (wr.setCell ⟨xx, i, none⟩ v) bl bx q rr xx it s y' k u := by
  have hp := h.pl
  exact ⟨h.rd.set (by show bl < xx; omega) (by show bx < xx; omega) _, h.kp.set (.inr (by show w.heap.size ≤ xx; omega)) _, h.bq.far (by show q ≠ xx; omega) _, Blk.far h.br (by show rr ≠ xx; omega) _, hb, (heap_setCell_other _ _ _ _ (by show it ≠ xx; omega)).trans h.hi, h.pl⟩
theorem Ii.drew (h : Ii w wr bl bx q rr xx it s y k u) : Ii w wr.drew bl bx q rr xx it s y k u := by
  have hd := bDrew wr
  exact h.next (KeptQ.of hd) (h.rd.next hd)
theorem Ii.pos (h : Ii w wr bl bx q rr xx it s y k u) : wr.iterPos it = k := by unfold World.iterPos; rw [h.hi]
theorem Ii.ne (h : Ii w wr bl bx q rr xx it s y k u) : ¬ xx = q ∧ ¬ q = xx := by have := h.pl; omega
end
set_option maxRecDepth 100000 in
set_option maxHeartbeats 4000000 in
theorem rdinstr_any (op : Int) (u0 : List UInt8) (bl bx : Nat) (w : World) (h : RdAt w bl bx u0) :
    Calls Tryz.prog 50 #[rdV bl bx, .int .i64 op, .string (sh op).2.1] w (RdR w bl bx (fieldsP (flds op) ⟨op, 0, 0, 0, ⟨#[]⟩, 0⟩ u0) fun x => x.v) := by
  obtain ⟨s, hs⟩ : ∃ s, Hid (s = (sh op).2.1) := ⟨_, rfl⟩
  have HFL := Lib.hid (show flds op = s.data.toList by rw [hs.out]; rfl)
  obtain ⟨W, HW⟩ : ∃ X, Hid (X = ((w.alloc (.cells (rdCs bl bx) 81)).alloc (.cells #[.int .i64 0, .int .i64 0, .int .i64 0, .int .i64 0, .string ⟨#[]⟩, .int .i64 0] 34)).alloc (.cells #[.int .i64 op, .int .i64 0, .int .i64 0, .int .i64 0, .string ⟨#[]⟩, .int .i64 0] 34)) := ⟨_, rfl⟩
  obtain ⟨q, hq⟩ : ∃ q, Hid (q = w.heap.size) := ⟨_, rfl⟩
  obtain ⟨rr, hrr⟩ : ∃ q, Hid (q = w.heap.size + 1) := ⟨_, rfl⟩
  obtain ⟨xx, hxx⟩ : ∃ q, Hid (q = w.heap.size + 1 + 1) := ⟨_, rfl⟩
  obtain ⟨F, HF0⟩ : ∃ F, Hid (F = fieldsP (flds op) ⟨op, 0, 0, 0, ⟨#[]⟩, 0⟩ u0) := ⟨_, rfl⟩
  rw [← HF0.out, ← hs.out]
  have hBW : Below w.heap.size w W := by rw [HW.out]; exact ((bAlloc w _).alloc (by simp) _).alloc (by simp; omega) _
  have HI := Lib.hid (show ∀ it, it = w.heap.size + 1 + 1 + 1 → Ii w (W.alloc (.stringIter s 0)) bl bx q rr xx it s ⟨op, 0, 0, 0, ⟨#[]⟩, 0⟩ 0 u0 by
    intro it hit
    have hz : W.heap.size = w.heap.size + 1 + 1 + 1 := by rw [HW.out]; simp
    have h1 := h.ln.lt
    have h2 := h.fs.lt
    have ha := bAlloc W (.stringIter s 0)
    have hA := bNext hBW ha
    refine ⟨h.next hA, KeptQ.of hA, ?_, ?_, ?_, ?_, ?_⟩
    · rw [HW.out, hq.out]; exact (((Blk.new _ _ _).alloc _).alloc _).alloc _
    · have h3 := ((Blk.new (w.alloc (.cells (rdCs bl bx) 81)) 34 #[.int .i64 0, .int .i64 0, .int .i64 0, .int .i64 0, .string ⟨#[]⟩, .int .i64 0]).alloc (.cells #[.int .i64 op, .int .i64 0, .int .i64 0, .int .i64 0, .string ⟨#[]⟩, .int .i64 0] 34)).alloc (.stringIter s 0)
      rw [World.size_alloc] at h3
      rw [HW.out, hrr.out]; exact h3
    · have h3 := (Blk.new ((w.alloc (.cells (rdCs bl bx) 81)).alloc (.cells #[.int .i64 0, .int .i64 0, .int .i64 0, .int .i64 0, .string ⟨#[]⟩, .int .i64 0] 34)) 34 #[.int .i64 op, .int .i64 0, .int .i64 0, .int .i64 0, .string ⟨#[]⟩, .int .i64 0]).alloc (.stringIter s 0)
      rw [World.size_alloc, World.size_alloc] at h3
      rw [HW.out, hxx.out]; exact h3
    · rw [hit, ← hz]; exact heap_alloc_new W _
    · rw [hq.out, hrr.out, hxx.out, hit]; omega)
  have HZ := Lib.hid (show W.heap.size = w.heap.size + 1 + 1 + 1 by rw [HW.out]; simp)
  clear h hBW
  go_enter Tryz.func50, Tryz.ntmps50
  go_upto_region 2 with fail
  rw [← HW.out, ← hxx.out, ← hrr.out, ← hq.out]
  clear HW hrr hq hxx
  go_wp2_with fail
  obtain ⟨it, hit⟩ : ∃ i, Hid (i = W.heap.size) := ⟨_, rfl⟩
  rw [← hit.out]
  go_loopw [9] (fun _ wr => ∃ (k : Nat) (y : In) (u : List UInt8), k ≤ s.size ∧ Hid (F = fieldsP (s.data.toList.drop k) y u) ∧ Hid (Ii w wr bl bx q rr xx it s y k u)) (fun _ wr => s.size - wr.iterPos it)
  case atStart =>
    exact ⟨0, _, u0, Nat.zero_le _, Lib.hid (by rw [HF0.out, HFL.out]; rfl), Lib.hid (HI.out it (by rw [hit.out, HZ.out]))⟩
  case round =>
    obtain ⟨k, y, u, hk, HF, HR⟩ := hrel
    clear HI HZ hit
    by_cases hlt : k < s.size
    · have hget : s.data.toList[k]? = some (s[k]'hlt) := by simp [hlt]; rfl
      have hmem := flds_mem op _ (by rw [HFL.out]; exact List.mem_of_getElem? hget)
      generalize hc : s[k]'hlt = c at hget hmem
      have HC := Lib.hid hc
      have HDR := Lib.hid (show s.data.toList.drop k = c :: s.data.toList.drop (k + 1) by
        have h1 := (List.getElem?_eq_some_iff.1 hget).1
        rw [List.drop_eq_getElem_cons h1, (List.getElem?_eq_some_iff.1 hget).2])
      clear hc hget
      obtain ⟨w2, hw2⟩ : ∃ w2, w2 = wr.iterAt it s (k + 1) := ⟨_, rfl⟩
      have HN : Hid (Ii w w2 bl bx q rr xx it s y (k + 1) u) := by rw [hw2]; exact Lib.hid HR.out.step
      have HW := Lib.hid hw2
      clear hw2
      rcases hmem with rfl | rfl | rfl | rfl | rfl | rfl | rfl | rfl
      · have hn := fun ty => next_lit hlt HR.out.hi HC.out (by decide) 114 rfl ty
        rw [← HW.out] at hn
        have HF1 := Lib.hid (show F = (((litP [32] u).bind fun l => (regP l).map fun p => (({ y with r := p.1 } : In), p.2)).bind fun p => fieldsP (s.data.toList.drop (k + 1)) p.1 p.2) by rw [HF.out, HDR.out]; rfl)
        have g0 := HN.out.bq.cell 0
        have g1 := HN.out.bq.cell 1
        have g2 := HN.out.bq.cell 2
        have g3 := HN.out.bq.cell 3
        have g4 := HN.out.bq.cell 4
        have g5 := HN.out.bq.cell 5
        have gl := HN.out.bq.lt
        simp at g0 g1 g2 g3 g4 g5
        go_wp2_with fail
        refine (literal_any [32] u bl bx w2 HN.out.rd).mono ?_
        intro e w3 hr
        rcases hr.cases with ⟨_, u3, ho, rfl, hrd, hkq⟩ | ⟨ho, rfl, hkq⟩
        rotate_left
        · have HNO := Lib.hid (show F = none by rw [HF1.out, lit_map ho]; rfl)
          exact ⟨rfl, RdR.none HNO.out rfl (HN.out.kp.trans hkq)⟩
        have HF3 := Lib.hid (show F = (((regP u3).map fun p => (({ y with r := p.1 } : In), p.2)).bind fun p => fieldsP (s.data.toList.drop (k + 1)) p.1 p.2) by rw [HF1.out, lit_map ho]; rfl)
        have HN3 := Lib.hid (HN.out.next hkq hrd)
        clear hr ho hrd hkq g0 g1 g2 g3 g4 g5 gl hn
        have g0 := HN3.out.bq.cell 0
        have g1 := HN3.out.bq.cell 1
        have g2 := HN3.out.bq.cell 2
        have g3 := HN3.out.bq.cell 3
        have g4 := HN3.out.bq.cell 4
        have g5 := HN3.out.bq.cell 5
        have gl := HN3.out.bq.lt
        simp at g0 g1 g2 g3 g4 g5
        go_wp2_with fail
        refine (rdreg_any u3 bl bx w3 HN3.out.rd).mono ?_
        intro e w4 hr
        rcases hr.cases with ⟨r, u4, ho, rfl, hrd, hkq⟩ | ⟨ho, rfl, hkq⟩
        rotate_left
        · have HNO := Lib.hid (show F = none by rw [HF3.out, ho]; rfl)
          exact ⟨rfl, RdR.none HNO.out rfl (HN3.out.kp.trans hkq)⟩
        have HF4 := Lib.hid (show F = fieldsP (s.data.toList.drop (k + 1)) { y with r := r } u4 by rw [HF3.out, ho]; rfl)
        have HN4 := Lib.hid (HN3.out.next hkq hrd)
        clear hr ho hrd hkq g0 g1 g2 g3 g4 g5 gl
        obtain ⟨p0, p1, p2, p3, p4, p5⟩ := BoxI.cells HN4.out.bi
        obtain ⟨f0, f1, f2, f3, f4, f5⟩ := BoxI.open_ HN4.out.bi
        have pl := HN4.out.bi.lt
        have HN5 := Lib.hid (HN4.out.set (BoxI.setR HN4.out.bi r))
        go_wp2_with fail
        exact ⟨⟨k + 1, _, u4, by omega, HF4, HN5⟩, by have e1 := HN5.out.pos; have e2 := HR.out.pos; omega⟩
      · have hn := fun ty => next_lit hlt HR.out.hi HC.out (by decide) 97 rfl ty
        rw [← HW.out] at hn
        have HF1 := Lib.hid (show F = (((litP [32] u).bind fun l => (regP l).map fun p => (({ y with a := p.1 } : In), p.2)).bind fun p => fieldsP (s.data.toList.drop (k + 1)) p.1 p.2) by rw [HF.out, HDR.out]; rfl)
        have g0 := HN.out.bq.cell 0
        have g1 := HN.out.bq.cell 1
        have g2 := HN.out.bq.cell 2
        have g3 := HN.out.bq.cell 3
        have g4 := HN.out.bq.cell 4
        have g5 := HN.out.bq.cell 5
        have gl := HN.out.bq.lt
        simp at g0 g1 g2 g3 g4 g5
        go_wp2_with fail
        refine (literal_any [32] u bl bx w2 HN.out.rd).mono ?_
        intro e w3 hr
        rcases hr.cases with ⟨_, u3, ho, rfl, hrd, hkq⟩ | ⟨ho, rfl, hkq⟩
        rotate_left
        · have HNO := Lib.hid (show F = none by rw [HF1.out, lit_map ho]; rfl)
          exact ⟨rfl, RdR.none HNO.out rfl (HN.out.kp.trans hkq)⟩
        have HF3 := Lib.hid (show F = (((regP u3).map fun p => (({ y with a := p.1 } : In), p.2)).bind fun p => fieldsP (s.data.toList.drop (k + 1)) p.1 p.2) by rw [HF1.out, lit_map ho]; rfl)
        have HN3 := Lib.hid (HN.out.next hkq hrd)
        clear hr ho hrd hkq g0 g1 g2 g3 g4 g5 gl hn
        have g0 := HN3.out.bq.cell 0
        have g1 := HN3.out.bq.cell 1
        have g2 := HN3.out.bq.cell 2
        have g3 := HN3.out.bq.cell 3
        have g4 := HN3.out.bq.cell 4
        have g5 := HN3.out.bq.cell 5
        have gl := HN3.out.bq.lt
        simp at g0 g1 g2 g3 g4 g5
        go_wp2_with fail
        refine (rdreg_any u3 bl bx w3 HN3.out.rd).mono ?_
        intro e w4 hr
        rcases hr.cases with ⟨r, u4, ho, rfl, hrd, hkq⟩ | ⟨ho, rfl, hkq⟩
        rotate_left
        · have HNO := Lib.hid (show F = none by rw [HF3.out, ho]; rfl)
          exact ⟨rfl, RdR.none HNO.out rfl (HN3.out.kp.trans hkq)⟩
        have HF4 := Lib.hid (show F = fieldsP (s.data.toList.drop (k + 1)) { y with a := r } u4 by rw [HF3.out, ho]; rfl)
        have HN4 := Lib.hid (HN3.out.next hkq hrd)
        clear hr ho hrd hkq g0 g1 g2 g3 g4 g5 gl
        obtain ⟨p0, p1, p2, p3, p4, p5⟩ := BoxI.cells HN4.out.bi
        obtain ⟨f0, f1, f2, f3, f4, f5⟩ := BoxI.open_ HN4.out.bi
        have pl := HN4.out.bi.lt
        have HN5 := Lib.hid (HN4.out.set (BoxI.setA HN4.out.bi r))
        go_wp2_with fail
        exact ⟨⟨k + 1, _, u4, by omega, HF4, HN5⟩, by have e1 := HN5.out.pos; have e2 := HR.out.pos; omega⟩
      · have hn := fun ty => next_lit hlt HR.out.hi HC.out (by decide) 110 rfl ty
        rw [← HW.out] at hn
        have HF1 := Lib.hid (show F = (((litP [32] u).bind fun l => (intP l).map fun p => (({ y with n := p.1 } : In), p.2)).bind fun p => fieldsP (s.data.toList.drop (k + 1)) p.1 p.2) by rw [HF.out, HDR.out]; rfl)
        have g0 := HN.out.bq.cell 0
        have g1 := HN.out.bq.cell 1
        have g2 := HN.out.bq.cell 2
        have g3 := HN.out.bq.cell 3
        have g4 := HN.out.bq.cell 4
        have g5 := HN.out.bq.cell 5
        have gl := HN.out.bq.lt
        simp at g0 g1 g2 g3 g4 g5
        go_wp2_with fail
        refine (literal_any [32] u bl bx w2 HN.out.rd).mono ?_
        intro e w3 hr
        rcases hr.cases with ⟨_, u3, ho, rfl, hrd, hkq⟩ | ⟨ho, rfl, hkq⟩
        rotate_left
        · have HNO := Lib.hid (show F = none by rw [HF1.out, lit_map ho]; rfl)
          exact ⟨rfl, RdR.none HNO.out rfl (HN.out.kp.trans hkq)⟩
        have HF3 := Lib.hid (show F = (((intP u3).map fun p => (({ y with n := p.1 } : In), p.2)).bind fun p => fieldsP (s.data.toList.drop (k + 1)) p.1 p.2) by rw [HF1.out, lit_map ho]; rfl)
        have HN3 := Lib.hid (HN.out.next hkq hrd)
        clear hr ho hrd hkq g0 g1 g2 g3 g4 g5 gl hn
        have g0 := HN3.out.bq.cell 0
        have g1 := HN3.out.bq.cell 1
        have g2 := HN3.out.bq.cell 2
        have g3 := HN3.out.bq.cell 3
        have g4 := HN3.out.bq.cell 4
        have g5 := HN3.out.bq.cell 5
        have gl := HN3.out.bq.lt
        simp at g0 g1 g2 g3 g4 g5
        go_wp2_with fail
        refine (integer_any u3 bl bx w3 HN3.out.rd).mono ?_
        intro e w4 hr
        rcases hr.cases with ⟨r, u4, ho, rfl, hrd, hkq⟩ | ⟨ho, rfl, hkq⟩
        rotate_left
        · have HNO := Lib.hid (show F = none by rw [HF3.out, ho]; rfl)
          exact ⟨rfl, RdR.none HNO.out rfl (HN3.out.kp.trans hkq)⟩
        have HF4 := Lib.hid (show F = fieldsP (s.data.toList.drop (k + 1)) { y with n := r } u4 by rw [HF3.out, ho]; rfl)
        have HN4 := Lib.hid (HN3.out.next hkq hrd)
        clear hr ho hrd hkq g0 g1 g2 g3 g4 g5 gl
        obtain ⟨p0, p1, p2, p3, p4, p5⟩ := BoxI.cells HN4.out.bi
        obtain ⟨f0, f1, f2, f3, f4, f5⟩ := BoxI.open_ HN4.out.bi
        have pl := HN4.out.bi.lt
        have HN5 := Lib.hid (HN4.out.set (BoxI.setN HN4.out.bi r))
        go_wp2_with fail
        exact ⟨⟨k + 1, _, u4, by omega, HF4, HN5⟩, by have e1 := HN5.out.pos; have e2 := HR.out.pos; omega⟩
      · have hn := fun ty => next_lit hlt HR.out.hi HC.out (by decide) 118 rfl ty
        rw [← HW.out] at hn
        have HF1 := Lib.hid (show F = (((litP [32] u).bind fun l => (intP l).map fun p => (({ y with n := p.1 } : In), p.2)).bind fun p => fieldsP (s.data.toList.drop (k + 1)) p.1 p.2) by rw [HF.out, HDR.out]; rfl)
        have g0 := HN.out.bq.cell 0
        have g1 := HN.out.bq.cell 1
        have g2 := HN.out.bq.cell 2
        have g3 := HN.out.bq.cell 3
        have g4 := HN.out.bq.cell 4
        have g5 := HN.out.bq.cell 5
        have gl := HN.out.bq.lt
        simp at g0 g1 g2 g3 g4 g5
        go_wp2_with fail
        refine (literal_any [32] u bl bx w2 HN.out.rd).mono ?_
        intro e w3 hr
        rcases hr.cases with ⟨_, u3, ho, rfl, hrd, hkq⟩ | ⟨ho, rfl, hkq⟩
        rotate_left
        · have HNO := Lib.hid (show F = none by rw [HF1.out, lit_map ho]; rfl)
          exact ⟨rfl, RdR.none HNO.out rfl (HN.out.kp.trans hkq)⟩
        have HF3 := Lib.hid (show F = (((intP u3).map fun p => (({ y with n := p.1 } : In), p.2)).bind fun p => fieldsP (s.data.toList.drop (k + 1)) p.1 p.2) by rw [HF1.out, lit_map ho]; rfl)
        have HN3 := Lib.hid (HN.out.next hkq hrd)
        clear hr ho hrd hkq g0 g1 g2 g3 g4 g5 gl hn
        have g0 := HN3.out.bq.cell 0
        have g1 := HN3.out.bq.cell 1
        have g2 := HN3.out.bq.cell 2
        have g3 := HN3.out.bq.cell 3
        have g4 := HN3.out.bq.cell 4
        have g5 := HN3.out.bq.cell 5
        have gl := HN3.out.bq.lt
        simp at g0 g1 g2 g3 g4 g5
        go_wp2_with fail
        refine (integer_any u3 bl bx w3 HN3.out.rd).mono ?_
        intro e w4 hr
        rcases hr.cases with ⟨r, u4, ho, rfl, hrd, hkq⟩ | ⟨ho, rfl, hkq⟩
        rotate_left
        · have HNO := Lib.hid (show F = none by rw [HF3.out, ho]; rfl)
          exact ⟨rfl, RdR.none HNO.out rfl (HN3.out.kp.trans hkq)⟩
        have HF4 := Lib.hid (show F = fieldsP (s.data.toList.drop (k + 1)) { y with n := r } u4 by rw [HF3.out, ho]; rfl)
        have HN4 := Lib.hid (HN3.out.next hkq hrd)
        clear hr ho hrd hkq g0 g1 g2 g3 g4 g5 gl
        obtain ⟨p0, p1, p2, p3, p4, p5⟩ := BoxI.cells HN4.out.bi
        obtain ⟨f0, f1, f2, f3, f4, f5⟩ := BoxI.open_ HN4.out.bi
        have pl := HN4.out.bi.lt
        have HN5 := Lib.hid (HN4.out.set (BoxI.setN HN4.out.bi r))
        go_wp2_with fail
        exact ⟨⟨k + 1, _, u4, by omega, HF4, HN5⟩, by have e1 := HN5.out.pos; have e2 := HR.out.pos; omega⟩
      · have hn := fun ty => next_lit hlt HR.out.hi HC.out (by decide) 99 rfl ty
        rw [← HW.out] at hn
        have HF1 := Lib.hid (show F = (((litP [32] u).bind fun l => (intP l).map fun p => (({ y with n := p.1 } : In), p.2)).bind fun p => fieldsP (s.data.toList.drop (k + 1)) p.1 p.2) by rw [HF.out, HDR.out]; rfl)
        have g0 := HN.out.bq.cell 0
        have g1 := HN.out.bq.cell 1
        have g2 := HN.out.bq.cell 2
        have g3 := HN.out.bq.cell 3
        have g4 := HN.out.bq.cell 4
        have g5 := HN.out.bq.cell 5
        have gl := HN.out.bq.lt
        simp at g0 g1 g2 g3 g4 g5
        go_wp2_with fail
        refine (literal_any [32] u bl bx w2 HN.out.rd).mono ?_
        intro e w3 hr
        rcases hr.cases with ⟨_, u3, ho, rfl, hrd, hkq⟩ | ⟨ho, rfl, hkq⟩
        rotate_left
        · have HNO := Lib.hid (show F = none by rw [HF1.out, lit_map ho]; rfl)
          exact ⟨rfl, RdR.none HNO.out rfl (HN.out.kp.trans hkq)⟩
        have HF3 := Lib.hid (show F = (((intP u3).map fun p => (({ y with n := p.1 } : In), p.2)).bind fun p => fieldsP (s.data.toList.drop (k + 1)) p.1 p.2) by rw [HF1.out, lit_map ho]; rfl)
        have HN3 := Lib.hid (HN.out.next hkq hrd)
        clear hr ho hrd hkq g0 g1 g2 g3 g4 g5 gl hn
        have g0 := HN3.out.bq.cell 0
        have g1 := HN3.out.bq.cell 1
        have g2 := HN3.out.bq.cell 2
        have g3 := HN3.out.bq.cell 3
        have g4 := HN3.out.bq.cell 4
        have g5 := HN3.out.bq.cell 5
        have gl := HN3.out.bq.lt
        simp at g0 g1 g2 g3 g4 g5
        go_wp2_with fail
        refine (integer_any u3 bl bx w3 HN3.out.rd).mono ?_
        intro e w4 hr
        rcases hr.cases with ⟨r, u4, ho, rfl, hrd, hkq⟩ | ⟨ho, rfl, hkq⟩
        rotate_left
        · have HNO := Lib.hid (show F = none by rw [HF3.out, ho]; rfl)
          exact ⟨rfl, RdR.none HNO.out rfl (HN3.out.kp.trans hkq)⟩
        have HF4 := Lib.hid (show F = fieldsP (s.data.toList.drop (k + 1)) { y with n := r } u4 by rw [HF3.out, ho]; rfl)
        have HN4 := Lib.hid (HN3.out.next hkq hrd)
        clear hr ho hrd hkq g0 g1 g2 g3 g4 g5 gl
        obtain ⟨p0, p1, p2, p3, p4, p5⟩ := BoxI.cells HN4.out.bi
        obtain ⟨f0, f1, f2, f3, f4, f5⟩ := BoxI.open_ HN4.out.bi
        have pl := HN4.out.bi.lt
        have HN5 := Lib.hid (HN4.out.set (BoxI.setN HN4.out.bi r))
        go_wp2_with fail
        exact ⟨⟨k + 1, _, u4, by omega, HF4, HN5⟩, by have e1 := HN5.out.pos; have e2 := HR.out.pos; omega⟩
      · have hn := fun ty => next_lit hlt HR.out.hi HC.out (by decide) 115 rfl ty
        rw [← HW.out] at hn
        have HF1 := Lib.hid (show F = (((litP [32] u).bind fun l => (nameP l).map fun p => (({ y with nm := S p.1 } : In), p.2)).bind fun p => fieldsP (s.data.toList.drop (k + 1)) p.1 p.2) by rw [HF.out, HDR.out]; rfl)
        have g0 := HN.out.bq.cell 0
        have g1 := HN.out.bq.cell 1
        have g2 := HN.out.bq.cell 2
        have g3 := HN.out.bq.cell 3
        have g4 := HN.out.bq.cell 4
        have g5 := HN.out.bq.cell 5
        have gl := HN.out.bq.lt
        simp at g0 g1 g2 g3 g4 g5
        go_wp2_with fail
        refine (literal_any [32] u bl bx w2 HN.out.rd).mono ?_
        intro e w3 hr
        rcases hr.cases with ⟨_, u3, ho, rfl, hrd, hkq⟩ | ⟨ho, rfl, hkq⟩
        rotate_left
        · have HNO := Lib.hid (show F = none by rw [HF1.out, lit_map ho]; rfl)
          exact ⟨rfl, RdR.none HNO.out rfl (HN.out.kp.trans hkq)⟩
        have HF3 := Lib.hid (show F = (((nameP u3).map fun p => (({ y with nm := S p.1 } : In), p.2)).bind fun p => fieldsP (s.data.toList.drop (k + 1)) p.1 p.2) by rw [HF1.out, lit_map ho]; rfl)
        have HN3 := Lib.hid (HN.out.next hkq hrd)
        clear hr ho hrd hkq g0 g1 g2 g3 g4 g5 gl hn
        have g0 := HN3.out.bq.cell 0
        have g1 := HN3.out.bq.cell 1
        have g2 := HN3.out.bq.cell 2
        have g3 := HN3.out.bq.cell 3
        have g4 := HN3.out.bq.cell 4
        have g5 := HN3.out.bq.cell 5
        have gl := HN3.out.bq.lt
        simp at g0 g1 g2 g3 g4 g5
        go_wp2_with fail
        refine (name_any u3 bl bx w3 HN3.out.rd).mono ?_
        intro e w4 hr
        rcases hr.cases with ⟨r, u4, ho, rfl, hrd, hkq⟩ | ⟨ho, rfl, hkq⟩
        rotate_left
        · have HNO := Lib.hid (show F = none by rw [HF3.out, ho]; rfl)
          exact ⟨rfl, RdR.none HNO.out rfl (HN3.out.kp.trans hkq)⟩
        have HF4 := Lib.hid (show F = fieldsP (s.data.toList.drop (k + 1)) { y with nm := S r } u4 by rw [HF3.out, ho]; rfl)
        have HN4 := Lib.hid (HN3.out.next hkq hrd)
        clear hr ho hrd hkq g0 g1 g2 g3 g4 g5 gl
        obtain ⟨p0, p1, p2, p3, p4, p5⟩ := BoxI.cells HN4.out.bi
        obtain ⟨f0, f1, f2, f3, f4, f5⟩ := BoxI.open_ HN4.out.bi
        have pl := HN4.out.bi.lt
        have HN5 := Lib.hid (HN4.out.set (BoxI.setNm HN4.out.bi (S r)))
        go_wp2_with fail
        exact ⟨⟨k + 1, _, u4, by omega, HF4, HN5⟩, by have e1 := HN5.out.pos; have e2 := HR.out.pos; omega⟩
      · have hn := fun ty => next_lit hlt HR.out.hi HC.out (by decide) 102 rfl ty
        rw [← HW.out] at hn
        have HF1 := Lib.hid (show F = ((litP [32] u).bind (fun l => (nameP l).bind fun p => (litP [47] p.2).bind fun u => (smallP u).map fun q => (({ y with nm := S p.1, ar := q.1 } : In), q.2))).bind fun p => fieldsP (s.data.toList.drop (k + 1)) p.1 p.2 by rw [HF.out, HDR.out]; rfl)
        have g0 := HN.out.bq.cell 0
        have g1 := HN.out.bq.cell 1
        have g2 := HN.out.bq.cell 2
        have g3 := HN.out.bq.cell 3
        have g4 := HN.out.bq.cell 4
        have g5 := HN.out.bq.cell 5
        have gl := HN.out.bq.lt
        simp at g0 g1 g2 g3 g4 g5
        go_wp2_with fail
        refine (literal_any [32] u bl bx w2 HN.out.rd).mono ?_
        intro e w3 hr
        rcases hr.cases with ⟨_, u3, ho, rfl, hrd, hkq⟩ | ⟨ho, rfl, hkq⟩
        rotate_left
        · have HNO := Lib.hid (show F = none by rw [HF1.out, lit_map ho]; rfl)
          exact ⟨rfl, RdR.none HNO.out rfl (HN.out.kp.trans hkq)⟩
        have HF3 := Lib.hid (show F = ((fun l => (nameP l).bind fun p => (litP [47] p.2).bind fun u => (smallP u).map fun q => (({ y with nm := S p.1, ar := q.1 } : In), q.2)) u3).bind fun p => fieldsP (s.data.toList.drop (k + 1)) p.1 p.2 by rw [HF1.out, lit_map ho]; rfl)
        have HN3 := Lib.hid (HN.out.next hkq hrd)
        clear hr ho hrd hkq g0 g1 g2 g3 g4 g5 gl hn
        have g0 := HN3.out.bq.cell 0
        have g1 := HN3.out.bq.cell 1
        have g2 := HN3.out.bq.cell 2
        have g3 := HN3.out.bq.cell 3
        have g4 := HN3.out.bq.cell 4
        have g5 := HN3.out.bq.cell 5
        have gl := HN3.out.bq.lt
        simp at g0 g1 g2 g3 g4 g5
        go_wp2_with fail
        refine (name_any u3 bl bx w3 HN3.out.rd).mono ?_
        intro e w4 hr
        rcases hr.cases with ⟨x, u4, ho, rfl, hrd, hkq⟩ | ⟨ho, rfl, hkq⟩
        rotate_left
        · have HNO := Lib.hid (show F = none by rw [HF3.out, ho]; rfl)
          exact ⟨rfl, RdR.none HNO.out rfl (HN3.out.kp.trans hkq)⟩
        have HF4 := Lib.hid (show F = ((litP [47] u4).bind fun u => (smallP u).map fun q => (({ y with nm := S x, ar := q.1 } : In), q.2)).bind fun p => fieldsP (s.data.toList.drop (k + 1)) p.1 p.2 by rw [HF3.out, ho]; rfl)
        have HN4 := Lib.hid (HN3.out.next hkq hrd)
        clear hr ho hrd hkq g0 g1 g2 g3 g4 g5 gl
        obtain ⟨p0, p1, p2, p3, p4, p5⟩ := BoxI.cells HN4.out.bi
        obtain ⟨f0, f1, f2, f3, f4, f5⟩ := BoxI.open_ HN4.out.bi
        have pl := HN4.out.bi.lt
        go_upto_region 16 with fail
        obtain ⟨w5, hw5⟩ : ∃ X, Hid (X = w4.setCell ⟨xx, 4, none⟩ (.string (S x))) := ⟨_, rfl⟩
        have HN5 := Lib.hid (HN4.out.set (BoxI.setNm HN4.out.bi (S x)))
        rw [← hw5.out] at HN5 ⊢
        clear hw5 p0 p1 p2 p3 p4 p5 pl f0 f1 f2 f3 f4 f5
        have g0 := HN5.out.bq.cell 0
        have g1 := HN5.out.bq.cell 1
        have g2 := HN5.out.bq.cell 2
        have g3 := HN5.out.bq.cell 3
        have g4 := HN5.out.bq.cell 4
        have g5 := HN5.out.bq.cell 5
        have gl := HN5.out.bq.lt
        simp at g0 g1 g2 g3 g4 g5
        go_wp2_with fail
        refine (literal_any [47] u4 bl bx w5 HN5.out.rd).mono ?_
        intro e w6 hr
        rcases hr.cases with ⟨_, u6, ho, rfl, hrd, hkq⟩ | ⟨ho, rfl, hkq⟩
        rotate_left
        · have HNO := Lib.hid (show F = none by rw [HF4.out, lit_map ho]; rfl)
          exact ⟨rfl, RdR.none HNO.out rfl (HN5.out.kp.trans hkq)⟩
        have HF6 := Lib.hid (show F = ((smallP u6).map fun q => (({ y with nm := S x, ar := q.1 } : In), q.2)).bind fun p => fieldsP (s.data.toList.drop (k + 1)) p.1 p.2 by rw [HF4.out, lit_map ho]; rfl)
        have HN6 := Lib.hid (HN5.out.next hkq hrd)
        clear hr ho hrd hkq g0 g1 g2 g3 g4 g5 gl
        have g0 := HN6.out.bq.cell 0
        have g1 := HN6.out.bq.cell 1
        have g2 := HN6.out.bq.cell 2
        have g3 := HN6.out.bq.cell 3
        have g4 := HN6.out.bq.cell 4
        have g5 := HN6.out.bq.cell 5
        have gl := HN6.out.bq.lt
        simp at g0 g1 g2 g3 g4 g5
        go_wp2_with fail
        refine (small_any u6 bl bx w6 HN6.out.rd).mono ?_
        intro e w7 hr
        rcases hr.cases with ⟨a, u7, ho, rfl, hrd, hkq⟩ | ⟨ho, rfl, hkq⟩
        rotate_left
        · have HNO := Lib.hid (show F = none by rw [HF6.out, ho]; rfl)
          exact ⟨rfl, RdR.none HNO.out rfl (HN6.out.kp.trans hkq)⟩
        have HF7 := Lib.hid (show F = fieldsP (s.data.toList.drop (k + 1)) { y with nm := S x, ar := a } u7 by rw [HF6.out, ho]; rfl)
        have HN7 := Lib.hid (HN6.out.next hkq hrd)
        clear hr ho hrd hkq g0 g1 g2 g3 g4 g5 gl
        obtain ⟨p0, p1, p2, p3, p4, p5⟩ := BoxI.cells HN7.out.bi
        obtain ⟨f0, f1, f2, f3, f4, f5⟩ := BoxI.open_ HN7.out.bi
        have pl := HN7.out.bi.lt
        have HN8 := Lib.hid (HN7.out.set (BoxI.setAr HN7.out.bi a))
        go_wp2_with fail
        exact ⟨⟨k + 1, _, u7, by omega, HF7, HN8⟩, by have e1 := HN8.out.pos; have e2 := HR.out.pos; omega⟩
      · have hn := fun ty => next_lit hlt HR.out.hi HC.out (by decide) 112 rfl ty
        rw [← HW.out] at hn
        have HF1 := Lib.hid (show F = ((litP [32] u).bind (fun l => (predP l).map fun p => (({ y with nm := S p.1.1, ar := p.1.2.1, n := p.1.2.2 } : In), p.2))).bind fun p => fieldsP (s.data.toList.drop (k + 1)) p.1 p.2 by rw [HF.out, HDR.out]; rfl)
        have g0 := HN.out.bq.cell 0
        have g1 := HN.out.bq.cell 1
        have g2 := HN.out.bq.cell 2
        have g3 := HN.out.bq.cell 3
        have g4 := HN.out.bq.cell 4
        have g5 := HN.out.bq.cell 5
        have gl := HN.out.bq.lt
        simp at g0 g1 g2 g3 g4 g5
        go_wp2_with fail
        refine (literal_any [32] u bl bx w2 HN.out.rd).mono ?_
        intro e w3 hr
        rcases hr.cases with ⟨_, u3, ho, rfl, hrd, hkq⟩ | ⟨ho, rfl, hkq⟩
        rotate_left
        · have HNO := Lib.hid (show F = none by rw [HF1.out, lit_map ho]; rfl)
          exact ⟨rfl, RdR.none HNO.out rfl (HN.out.kp.trans hkq)⟩
        have HF3 := Lib.hid (show F = ((fun l => (predP l).map fun p => (({ y with nm := S p.1.1, ar := p.1.2.1, n := p.1.2.2 } : In), p.2)) u3).bind fun p => fieldsP (s.data.toList.drop (k + 1)) p.1 p.2 by rw [HF1.out, lit_map ho]; rfl)
        have HN3 := Lib.hid (HN.out.next hkq hrd)
        clear hr ho hrd hkq g0 g1 g2 g3 g4 g5 gl hn
        have g0 := HN3.out.bq.cell 0
        have g1 := HN3.out.bq.cell 1
        have g2 := HN3.out.bq.cell 2
        have g3 := HN3.out.bq.cell 3
        have g4 := HN3.out.bq.cell 4
        have g5 := HN3.out.bq.cell 5
        have gl := HN3.out.bq.lt
        simp at g0 g1 g2 g3 g4 g5
        go_wp2_with fail
        refine (rdpred_any u3 bl bx w3 HN3.out.rd).mono ?_
        intro e w4 hr
        rcases hr.cases with ⟨⟨x, a, n⟩, u4, ho, rfl, hrd, hkq⟩ | ⟨ho, rfl, hkq⟩
        rotate_left
        · have HNO := Lib.hid (show F = none by rw [HF3.out, ho]; rfl)
          exact ⟨rfl, RdR.none HNO.out rfl (HN3.out.kp.trans hkq)⟩
        have HF4 := Lib.hid (show F = fieldsP (s.data.toList.drop (k + 1)) { y with nm := S x, ar := a, n := n } u4 by rw [HF3.out, ho]; rfl)
        have HN4 := Lib.hid (HN3.out.next hkq hrd)
        clear hr ho hrd hkq g0 g1 g2 g3 g4 g5 gl
        go_upto_region 20 with fail
        obtain ⟨pp, hpp⟩ : ∃ q, Hid (q = w4.heap.size) := ⟨_, rfl⟩
        obtain ⟨w5, hw5⟩ : ∃ X, Hid (X = w4.alloc (.cells #[.string (S x), .int .i64 a, .int .i64 n] 23)) := ⟨_, rfl⟩
        have HP5 := Lib.hid (show Blk w5 pp 23 #[.string (S x), .int .i64 a, .int .i64 n] by rw [hw5.out, hpp.out]; exact Blk.new _ _ _)
        have HN5 := Lib.hid (show Ii w w5 bl bx q rr xx it s y (k + 1) u4 by
          have hd := bAlloc w4 (.cells #[.string (S x), .int .i64 a, .int .i64 n] 23)
          rw [hw5.out]
          exact HN4.out.next (KeptQ.of hd) (HN4.out.rd.next hd))
        have hne : ¬ pp = xx := by have := HN4.out.bi.lt; rw [hpp.out]; omega
        have hne2 : ¬ xx = pp := fun e => hne e.symm
        rw [← hw5.out, ← hpp.out]
        clear hw5 hpp HN4
        have q0 := HP5.out.cell 0
        have q1 := HP5.out.cell 1
        have q2 := HP5.out.cell 2
        have ql := HP5.out.lt
        simp at q0 q1 q2
        obtain ⟨p0, p1, p2, p3, p4, p5⟩ := BoxI.cells HN5.out.bi
        obtain ⟨f0, f1, f2, f3, f4, f5⟩ := BoxI.open_ HN5.out.bi
        have pl := HN5.out.bi.lt
        have f45 : ¬ ((4 : Nat) = 5) := by decide
        have f43 : ¬ ((4 : Nat) = 3) := by decide
        have f53 : ¬ ((5 : Nat) = 3) := by decide
        have HN8 : Hid (Ii w (((w5.setCell ⟨xx, 4, none⟩ (.string (S x))).setCell ⟨xx, 5, none⟩ (.int .i64 a)).setCell ⟨xx, 3, none⟩ (.int .i64 n)).drew bl bx q rr xx it s { y with nm := S x, ar := a, n := n } (k + 1) u4) :=
          Lib.hid (((HN5.out.set (BoxI.setNm HN5.out.bi _)).set (BoxI.setAr (BoxI.setNm HN5.out.bi _) _)).set (BoxI.setN (BoxI.setAr (BoxI.setNm HN5.out.bi _) _) _)).drew
        go_wp2_with fail
        go_region
        go_wp2_with fail
        exact ⟨⟨k + 1, _, u4, by omega, HF4, HN8⟩, by have e1 := HN8.out.pos; have e2 := HR.out.pos; omega⟩
    · have HFE := Lib.hid (show F = some (y, u) by rw [HF.out, List.drop_of_length_le (by have : s.data.toList.length = s.size := Array.length_toList; omega)]; rfl)
      have hn := fun ty => Lib.run_next_end_at (P := Tryz.prog) wr it s k ty HR.out.hi hlt
      obtain ⟨p0, p1, p2, p3, p4, p5⟩ := BoxI.cells HR.out.bi
      have pl := HR.out.bi.lt
      have r0 := Blk.frozen HR.out.br 0
      have r1 := Blk.frozen HR.out.br 1
      have r2 := Blk.frozen HR.out.br 2
      have r3 := Blk.frozen HR.out.br 3
      have r4 := Blk.frozen HR.out.br 4
      have r5 := Blk.frozen HR.out.br 5
      have rl := Blk.lt HR.out.br
      obtain ⟨z0, z1, z2, z3, z4, z5⟩ := BoxI.cells HR.out.br
      simp only [] at z0 z1 z2 z3 z4 z5
      go_wp2_with fail
      obtain ⟨wy, hwy⟩ : ∃ X, Hid (X = (((((wr.setCell ⟨rr, 0, none⟩ (.int .i64 y.op)).setCell ⟨rr, 1, none⟩ (.int .i64 y.r)).setCell ⟨rr, 2, none⟩ (.int .i64 y.a)).setCell ⟨rr, 3, none⟩ (.int .i64 y.n)).setCell ⟨rr, 4, none⟩ (.string y.nm)).setCell ⟨rr, 5, none⟩ (.int .i64 y.ar)) := ⟨_, rfl⟩
      rw [← hwy.out]
      have HRY := Lib.hid (show BoxI wy rr y by
        rw [hwy.out]
        have h := (((((Blk.set_ HR.out.br 0 (.int .i64 y.op)).set_ 1 (.int .i64 y.r)).set_ 2 (.int .i64 y.a)).set_ 3 (.int .i64 y.n)).set_ 4 (.string y.nm)).set_ 5 (.int .i64 y.ar)
        unfold BoxI
        simpa using h)
      have HRDY := Lib.hid (show RdAt wy bl bx u by
        rw [hwy.out]
        have h1 : bl < rr := by have := HR.out.pl; omega
        have h2 : bx < rr := by have := HR.out.pl; omega
        exact (((((HR.out.rd.set h1 h2 _).set h1 h2 _).set h1 h2 _).set h1 h2 _).set h1 h2 _).set h1 h2 _)
      have HKY := Lib.hid (show KeptQ bl w wy by
        rw [hwy.out]
        have h1 : w.heap.size ≤ rr := by have := HR.out.pl; omega
        exact (((((HR.out.kp.set (.inr h1) _).set (.inr h1) _).set (.inr h1) _).set (.inr h1) _).set (.inr h1) _).set (.inr h1) _)
      clear hwy z0 z1 z2 z3 z4 z5 r0 r1 r2 r3 r4 r5 rl p0 p1 p2 p3 p4 p5 pl
      obtain ⟨r0, r1, r2, r3, r4, r5⟩ := BoxI.cells HRY.out
      refine bodyPost_ret (v := y.v) (by simp only [results, Tryz.results50]; go_simp) rfl ?_
      exact RdR.some HFE.out rfl HRDY.out HKY.out
end
section
open Go.RowKit

set_option maxRecDepth 100000 in
set_option maxHeartbeats 4000000 in
theorem read_any (s : List UInt8) (w : World) (h : Env w) (hs : s.length ≤ 1000000) (bl bx : Nat) (h1 : bl = w.heap.size) (h2 : bx = w.heap.size + 1 + 1) : Calls Tryz.prog 82 #[.string (S s)] w fun e w' =>
    e = .returned (rdV bl bx) ∧ Below w.heap.size w w' ∧ RdAt w' bl bx s := by
  have HE := Lib.hid h
  have HS := Lib.hid hs
  clear h hs 
  obtain ⟨W, HW⟩ : ∃ X, Hid (X = ((w.alloc (.cells #[.string (S s)] 9)).alloc (.cells #[.nilFunc, .nilFunc, .nilFunc, .nilFunc, .nilFunc, .nilFunc] 81)).alloc (.cells #[.nilFunc, .nilFunc, .nilFunc, .nilFunc, .nilFunc, .nilFunc] 81)) := ⟨_, rfl⟩
  have hbl := Lib.hid h1
  obtain ⟨rr, hrr⟩ : ∃ q, Hid (q = w.heap.size + 1) := ⟨_, rfl⟩
  have hbx := Lib.hid h2
  have HB := Lib.hid (show Below w.heap.size w W by rw [HW.out]; exact ((bAlloc w _).alloc (by simp) _).alloc (by simp; omega) _)
  have HL := Lib.hid (show Blk W bl 9 #[.string (S s)] by rw [HW.out, hbl.out]; exact ((Blk.new _ _ _).alloc _).alloc _)
  have HR := Lib.hid (show Blk W rr 81 #[.nilFunc, .nilFunc, .nilFunc, .nilFunc, .nilFunc, .nilFunc] by
    have h3 := ((Blk.new (w.alloc (.cells #[.string (S s)] 9)) 81 #[.nilFunc, .nilFunc, .nilFunc, .nilFunc, .nilFunc, .nilFunc]).alloc (.cells #[.nilFunc, .nilFunc, .nilFunc, .nilFunc, .nilFunc, .nilFunc] 81))
    rw [World.size_alloc] at h3
    rw [HW.out, hrr.out]; exact h3)
  have HX := Lib.hid (show Blk W bx 81 #[.nilFunc, .nilFunc, .nilFunc, .nilFunc, .nilFunc, .nilFunc] by
    have h3 := (Blk.new ((w.alloc (.cells #[.string (S s)] 9)).alloc (.cells #[.nilFunc, .nilFunc, .nilFunc, .nilFunc, .nilFunc, .nilFunc] 81)) 81 #[.nilFunc, .nilFunc, .nilFunc, .nilFunc, .nilFunc, .nilFunc])
    rw [World.size_alloc, World.size_alloc] at h3
    rw [HW.out, hbx.out]; exact h3)
  clear h1 h2
  have HN := Lib.hid (show (bl < rr ∧ rr < bx) ∧ w.heap.size = bl by rw [hbl.out, hrr.out, hbx.out]; omega)
  go_enter Tryz.func82, Tryz.ntmps82
  go_upto_region 2 with fail
  rw [← HW.out, ← hbx.out, ← hrr.out, ← hbl.out]
  clear HW hbx hrr hbl
  have f0 := HX.out.frozen 0
  have f1 := HX.out.frozen 1
  have f2 := HX.out.frozen 2
  have f3 := HX.out.frozen 3
  have f4 := HX.out.frozen 4
  have f5 := HX.out.frozen 5
  have c0 := HX.out.cell 0
  have c1 := HX.out.cell 1
  have c2 := HX.out.cell 2
  have c3 := HX.out.cell 3
  have c4 := HX.out.cell 4
  have c5 := HX.out.cell 5
  have cl := HX.out.lt
  simp at c0 c1 c2 c3 c4 c5
  go_upto_region 3 with fail
  obtain ⟨W1, hW⟩ : ∃ X, Hid (X = W.setCell ⟨bx, 1, none⟩ (.func (.func 110) #[] #[.pointer (some ⟨bl, 0, none⟩)])) := ⟨_, rfl⟩
  rw [← hW.out]
  have HX1 := Lib.hid (show Blk W1 bx 81 #[.nilFunc, .func (.func 110) #[] #[.pointer (some ⟨bl, 0, none⟩)], .nilFunc, .nilFunc, .nilFunc, .nilFunc] by rw [hW.out]; simpa using HX.out.set_ 1 (.func (.func 110) #[] #[.pointer (some ⟨bl, 0, none⟩)]))
  have HR1 := Lib.hid (show Blk W1 rr 81 #[.nilFunc, .nilFunc, .nilFunc, .nilFunc, .nilFunc, .nilFunc] by rw [hW.out]; exact HR.out.far (by have := HN.out; show rr ≠ bx; omega) _)
  have HL1 := Lib.hid (show Blk W1 bl 9 #[.string (S s)] by rw [hW.out]; exact HL.out.far (by have := HN.out; show bl ≠ bx; omega) _)
  have HB1 := Lib.hid (show Below w.heap.size w W1 by rw [hW.out]; exact HB.out.setCell (by have := HN.out; show w.heap.size ≤ bx; omega) _)
  clear hW HX HR HL HB f0 f1 f2 f3 f4 f5 c0 c1 c2 c3 c4 c5 cl
  have f0 := HX1.out.frozen 0
  have f1 := HX1.out.frozen 1
  have f2 := HX1.out.frozen 2
  have f3 := HX1.out.frozen 3
  have f4 := HX1.out.frozen 4
  have f5 := HX1.out.frozen 5
  have c0 := HX1.out.cell 0
  have c1 := HX1.out.cell 1
  have c2 := HX1.out.cell 2
  have c3 := HX1.out.cell 3
  have c4 := HX1.out.cell 4
  have c5 := HX1.out.cell 5
  have cl := HX1.out.lt
  simp at c0 c1 c2 c3 c4 c5
  go_upto_region 4 with fail
  obtain ⟨W2, hW⟩ : ∃ X, Hid (X = W1.setCell ⟨bx, 5, none⟩ (.func (.func 112) #[] #[.pointer (some ⟨bl, 0, none⟩)])) := ⟨_, rfl⟩
  rw [← hW.out]
  have HX2 := Lib.hid (show Blk W2 bx 81 #[.nilFunc, .func (.func 110) #[] #[.pointer (some ⟨bl, 0, none⟩)], .nilFunc, .nilFunc, .nilFunc, .func (.func 112) #[] #[.pointer (some ⟨bl, 0, none⟩)]] by rw [hW.out]; simpa using HX1.out.set_ 5 (.func (.func 112) #[] #[.pointer (some ⟨bl, 0, none⟩)]))
  have HR2 := Lib.hid (show Blk W2 rr 81 #[.nilFunc, .nilFunc, .nilFunc, .nilFunc, .nilFunc, .nilFunc] by rw [hW.out]; exact HR1.out.far (by have := HN.out; show rr ≠ bx; omega) _)
  have HL2 := Lib.hid (show Blk W2 bl 9 #[.string (S s)] by rw [hW.out]; exact HL1.out.far (by have := HN.out; show bl ≠ bx; omega) _)
  have HB2 := Lib.hid (show Below w.heap.size w W2 by rw [hW.out]; exact HB1.out.setCell (by have := HN.out; show w.heap.size ≤ bx; omega) _)
  clear hW HX1 HR1 HL1 HB1 f0 f1 f2 f3 f4 f5 c0 c1 c2 c3 c4 c5 cl
  have f0 := HX2.out.frozen 0
  have f1 := HX2.out.frozen 1
  have f2 := HX2.out.frozen 2
  have f3 := HX2.out.frozen 3
  have f4 := HX2.out.frozen 4
  have f5 := HX2.out.frozen 5
  have c0 := HX2.out.cell 0
  have c1 := HX2.out.cell 1
  have c2 := HX2.out.cell 2
  have c3 := HX2.out.cell 3
  have c4 := HX2.out.cell 4
  have c5 := HX2.out.cell 5
  have cl := HX2.out.lt
  simp at c0 c1 c2 c3 c4 c5
  go_upto_region 5 with fail
  obtain ⟨W3, hW⟩ : ∃ X, Hid (X = W2.setCell ⟨bx, 0, none⟩ (.func (.func 113) #[] #[.pointer (some ⟨bx, 0, none⟩), .pointer (some ⟨bl, 0, none⟩)])) := ⟨_, rfl⟩
  rw [← hW.out]
  have HX3 := Lib.hid (show Blk W3 bx 81 #[.func (.func 113) #[] #[.pointer (some ⟨bx, 0, none⟩), .pointer (some ⟨bl, 0, none⟩)], .func (.func 110) #[] #[.pointer (some ⟨bl, 0, none⟩)], .nilFunc, .nilFunc, .nilFunc, .func (.func 112) #[] #[.pointer (some ⟨bl, 0, none⟩)]] by rw [hW.out]; simpa using HX2.out.set_ 0 (.func (.func 113) #[] #[.pointer (some ⟨bx, 0, none⟩), .pointer (some ⟨bl, 0, none⟩)]))
  have HR3 := Lib.hid (show Blk W3 rr 81 #[.nilFunc, .nilFunc, .nilFunc, .nilFunc, .nilFunc, .nilFunc] by rw [hW.out]; exact HR2.out.far (by have := HN.out; show rr ≠ bx; omega) _)
  have HL3 := Lib.hid (show Blk W3 bl 9 #[.string (S s)] by rw [hW.out]; exact HL2.out.far (by have := HN.out; show bl ≠ bx; omega) _)
  have HB3 := Lib.hid (show Below w.heap.size w W3 by rw [hW.out]; exact HB2.out.setCell (by have := HN.out; show w.heap.size ≤ bx; omega) _)
  clear hW HX2 HR2 HL2 HB2 f0 f1 f2 f3 f4 f5 c0 c1 c2 c3 c4 c5 cl
  have f0 := HX3.out.frozen 0
  have f1 := HX3.out.frozen 1
  have f2 := HX3.out.frozen 2
  have f3 := HX3.out.frozen 3
  have f4 := HX3.out.frozen 4
  have f5 := HX3.out.frozen 5
  have c0 := HX3.out.cell 0
  have c1 := HX3.out.cell 1
  have c2 := HX3.out.cell 2
  have c3 := HX3.out.cell 3
  have c4 := HX3.out.cell 4
  have c5 := HX3.out.cell 5
  have cl := HX3.out.lt
  simp at c0 c1 c2 c3 c4 c5
  go_upto_region 6 with fail
  obtain ⟨W4, hW⟩ : ∃ X, Hid (X = W3.setCell ⟨bx, 2, none⟩ (.func (.func 114) #[] #[.pointer (some ⟨bl, 0, none⟩)])) := ⟨_, rfl⟩
  rw [← hW.out]
  have HX4 := Lib.hid (show Blk W4 bx 81 #[.func (.func 113) #[] #[.pointer (some ⟨bx, 0, none⟩), .pointer (some ⟨bl, 0, none⟩)], .func (.func 110) #[] #[.pointer (some ⟨bl, 0, none⟩)], .func (.func 114) #[] #[.pointer (some ⟨bl, 0, none⟩)], .nilFunc, .nilFunc, .func (.func 112) #[] #[.pointer (some ⟨bl, 0, none⟩)]] by rw [hW.out]; simpa using HX3.out.set_ 2 (.func (.func 114) #[] #[.pointer (some ⟨bl, 0, none⟩)]))
  have HR4 := Lib.hid (show Blk W4 rr 81 #[.nilFunc, .nilFunc, .nilFunc, .nilFunc, .nilFunc, .nilFunc] by rw [hW.out]; exact HR3.out.far (by have := HN.out; show rr ≠ bx; omega) _)
  have HL4 := Lib.hid (show Blk W4 bl 9 #[.string (S s)] by rw [hW.out]; exact HL3.out.far (by have := HN.out; show bl ≠ bx; omega) _)
  have HB4 := Lib.hid (show Below w.heap.size w W4 by rw [hW.out]; exact HB3.out.setCell (by have := HN.out; show w.heap.size ≤ bx; omega) _)
  clear hW HX3 HR3 HL3 HB3 f0 f1 f2 f3 f4 f5 c0 c1 c2 c3 c4 c5 cl
  have f0 := HX4.out.frozen 0
  have f1 := HX4.out.frozen 1
  have f2 := HX4.out.frozen 2
  have f3 := HX4.out.frozen 3
  have f4 := HX4.out.frozen 4
  have f5 := HX4.out.frozen 5
  have c0 := HX4.out.cell 0
  have c1 := HX4.out.cell 1
  have c2 := HX4.out.cell 2
  have c3 := HX4.out.cell 3
  have c4 := HX4.out.cell 4
  have c5 := HX4.out.cell 5
  have cl := HX4.out.lt
  simp at c0 c1 c2 c3 c4 c5
  go_upto_region 7 with fail
  obtain ⟨W5, hW⟩ : ∃ X, Hid (X = W4.setCell ⟨bx, 3, none⟩ (.func (.func 116) #[] #[.pointer (some ⟨bx, 0, none⟩), .pointer (some ⟨bl, 0, none⟩)])) := ⟨_, rfl⟩
  rw [← hW.out]
  have HX5 := Lib.hid (show Blk W5 bx 81 #[.func (.func 113) #[] #[.pointer (some ⟨bx, 0, none⟩), .pointer (some ⟨bl, 0, none⟩)], .func (.func 110) #[] #[.pointer (some ⟨bl, 0, none⟩)], .func (.func 114) #[] #[.pointer (some ⟨bl, 0, none⟩)], .func (.func 116) #[] #[.pointer (some ⟨bx, 0, none⟩), .pointer (some ⟨bl, 0, none⟩)], .nilFunc, .func (.func 112) #[] #[.pointer (some ⟨bl, 0, none⟩)]] by rw [hW.out]; simpa using HX4.out.set_ 3 (.func (.func 116) #[] #[.pointer (some ⟨bx, 0, none⟩), .pointer (some ⟨bl, 0, none⟩)]))
  have HR5 := Lib.hid (show Blk W5 rr 81 #[.nilFunc, .nilFunc, .nilFunc, .nilFunc, .nilFunc, .nilFunc] by rw [hW.out]; exact HR4.out.far (by have := HN.out; show rr ≠ bx; omega) _)
  have HL5 := Lib.hid (show Blk W5 bl 9 #[.string (S s)] by rw [hW.out]; exact HL4.out.far (by have := HN.out; show bl ≠ bx; omega) _)
  have HB5 := Lib.hid (show Below w.heap.size w W5 by rw [hW.out]; exact HB4.out.setCell (by have := HN.out; show w.heap.size ≤ bx; omega) _)
  clear hW HX4 HR4 HL4 HB4 f0 f1 f2 f3 f4 f5 c0 c1 c2 c3 c4 c5 cl
  have f0 := HX5.out.frozen 0
  have f1 := HX5.out.frozen 1
  have f2 := HX5.out.frozen 2
  have f3 := HX5.out.frozen 3
  have f4 := HX5.out.frozen 4
  have f5 := HX5.out.frozen 5
  have c0 := HX5.out.cell 0
  have c1 := HX5.out.cell 1
  have c2 := HX5.out.cell 2
  have c3 := HX5.out.cell 3
  have c4 := HX5.out.cell 4
  have c5 := HX5.out.cell 5
  have cl := HX5.out.lt
  simp at c0 c1 c2 c3 c4 c5
  go_upto_region 8 with fail
  obtain ⟨W6, hW⟩ : ∃ X, Hid (X = W5.setCell ⟨bx, 4, none⟩ (.func (.func 119) #[] #[.pointer (some ⟨bx, 0, none⟩)])) := ⟨_, rfl⟩
  rw [← hW.out]
  have HX6 := Lib.hid (show Blk W6 bx 81 #[.func (.func 113) #[] #[.pointer (some ⟨bx, 0, none⟩), .pointer (some ⟨bl, 0, none⟩)], .func (.func 110) #[] #[.pointer (some ⟨bl, 0, none⟩)], .func (.func 114) #[] #[.pointer (some ⟨bl, 0, none⟩)], .func (.func 116) #[] #[.pointer (some ⟨bx, 0, none⟩), .pointer (some ⟨bl, 0, none⟩)], .func (.func 119) #[] #[.pointer (some ⟨bx, 0, none⟩)], .func (.func 112) #[] #[.pointer (some ⟨bl, 0, none⟩)]] by rw [hW.out]; simpa using HX5.out.set_ 4 (.func (.func 119) #[] #[.pointer (some ⟨bx, 0, none⟩)]))
  have HR6 := Lib.hid (show Blk W6 rr 81 #[.nilFunc, .nilFunc, .nilFunc, .nilFunc, .nilFunc, .nilFunc] by rw [hW.out]; exact HR5.out.far (by have := HN.out; show rr ≠ bx; omega) _)
  have HL6 := Lib.hid (show Blk W6 bl 9 #[.string (S s)] by rw [hW.out]; exact HL5.out.far (by have := HN.out; show bl ≠ bx; omega) _)
  have HB6 := Lib.hid (show Below w.heap.size w W6 by rw [hW.out]; exact HB5.out.setCell (by have := HN.out; show w.heap.size ≤ bx; omega) _)
  clear hW HX5 HR5 HL5 HB5 f0 f1 f2 f3 f4 f5 c0 c1 c2 c3 c4 c5 cl
  have f0 := HX6.out.frozen 0
  have f1 := HX6.out.frozen 1
  have f2 := HX6.out.frozen 2
  have f3 := HX6.out.frozen 3
  have f4 := HX6.out.frozen 4
  have f5 := HX6.out.frozen 5
  have c0 := HX6.out.cell 0
  have c1 := HX6.out.cell 1
  have c2 := HX6.out.cell 2
  have c3 := HX6.out.cell 3
  have c4 := HX6.out.cell 4
  have c5 := HX6.out.cell 5
  have cl := HX6.out.lt
  simp at c0 c1 c2 c3 c4 c5
  have r0 := HR6.out.frozen 0
  have r1 := HR6.out.frozen 1
  have r2 := HR6.out.frozen 2
  have r3 := HR6.out.frozen 3
  have r4 := HR6.out.frozen 4
  have r5 := HR6.out.frozen 5
  have z0 := HR6.out.cell 0
  have z1 := HR6.out.cell 1
  have z2 := HR6.out.cell 2
  have z3 := HR6.out.cell 3
  have z4 := HR6.out.cell 4
  have z5 := HR6.out.cell 5
  have rl := HR6.out.lt
  simp at z0 z1 z2 z3 z4 z5
  go_wp2_with fail
  obtain ⟨W7, hW⟩ : ∃ X, Hid (X = ((((((W6.setCell ⟨rr, 0, none⟩ (.func (.func 113) #[] #[.pointer (some ⟨bx, 0, none⟩), .pointer (some ⟨bl, 0, none⟩)])).setCell ⟨rr, 1, none⟩ (.func (.func 110) #[] #[.pointer (some ⟨bl, 0, none⟩)])).setCell ⟨rr, 2, none⟩ (.func (.func 114) #[] #[.pointer (some ⟨bl, 0, none⟩)])).setCell ⟨rr, 3, none⟩ (.func (.func 116) #[] #[.pointer (some ⟨bx, 0, none⟩), .pointer (some ⟨bl, 0, none⟩)])).setCell ⟨rr, 4, none⟩ (.func (.func 119) #[] #[.pointer (some ⟨bx, 0, none⟩)])).setCell ⟨rr, 5, none⟩ (.func (.func 112) #[] #[.pointer (some ⟨bl, 0, none⟩)]))) := ⟨_, rfl⟩
  rw [← hW.out]
  have HR7 := Lib.hid (show Blk W7 rr 81 (rdCs bl bx) by rw [hW.out]; simpa using ((((((HR6.out.set_ 0 (.func (.func 113) #[] #[.pointer (some ⟨bx, 0, none⟩), .pointer (some ⟨bl, 0, none⟩)])).set_ 1 (.func (.func 110) #[] #[.pointer (some ⟨bl, 0, none⟩)])).set_ 2 (.func (.func 114) #[] #[.pointer (some ⟨bl, 0, none⟩)])).set_ 3 (.func (.func 116) #[] #[.pointer (some ⟨bx, 0, none⟩), .pointer (some ⟨bl, 0, none⟩)])).set_ 4 (.func (.func 119) #[] #[.pointer (some ⟨bx, 0, none⟩)])).set_ 5 (.func (.func 112) #[] #[.pointer (some ⟨bl, 0, none⟩)])))
  have HX7 := Lib.hid (show Blk W7 bx 81 (rdCs bl bx) by
    have h1 : bx ≠ rr := by have := HN.out; omega
    rw [hW.out]
    exact ((((((HX6.out.far h1 _).far h1 _).far h1 _).far h1 _).far h1 _).far h1 _))
  have HL7 := Lib.hid (show Blk W7 bl 9 #[.string (S s)] by
    have h2 : bl ≠ rr := by have := HN.out; omega
    rw [hW.out]
    exact ((((((HL6.out.far h2 _).far h2 _).far h2 _).far h2 _).far h2 _).far h2 _))
  have HB7 := Lib.hid (show Below w.heap.size w W7 by
    have h3 : w.heap.size ≤ rr := by have := HN.out; omega
    rw [hW.out]
    exact ((((((HB6.out.setCell h3 _).setCell h3 _).setCell h3 _).setCell h3 _).setCell h3 _).setCell h3 _))
  clear hW HX6 HR6 HL6 HB6 f0 f1 f2 f3 f4 f5 c0 c1 c2 c3 c4 c5 cl r0 r1 r2 r3 r4 r5 z0 z1 z2 z3 z4 z5 rl
  have z0 := HR7.out.cell 0
  have z1 := HR7.out.cell 1
  have z2 := HR7.out.cell 2
  have z3 := HR7.out.cell 3
  have z4 := HR7.out.cell 4
  have z5 := HR7.out.cell 5
  simp at z0 z1 z2 z3 z4 z5
  refine bodyPost_ret (v := rdV bl bx) (by simp only [results, Tryz.results82]; go_simp) rfl ?_
  exact ⟨rfl, HB7.out, HL7.out, HX7.out, by have := HN.out; omega, HS.out, w, HE.out, by have := HN.out; omega, HB7.out⟩
end
section
open Go.RowKit

theorem tab_at0 (k : Nat) (h2 : k < 26) (w : World) : (Instr.index 91 (.agg tabA) (.int .i64 k)).run Tryz.prog w = .ok (shV k) w := by
  by_cases h : k = 0
  · subst h
    show Sem.run _ _ _ = Result.ok _ _
    kernel_rfl
  · exact tab_at k (by omega) (by omega) w
theorem opOf_miss {s : List UInt8} (h : ∀ j : Nat, j < 26 → (nameL (j : Int) == s) = false) : opOf s = 0 := by
  unfold opOf
  rw [List.find?_eq_none.2]
  · rfl
  · intro x hx
    obtain ⟨j, hj, rfl⟩ := List.mem_map.1 hx
    rw [h j (List.mem_range.1 hj)]
    simp
theorem opOf_hit {s : List UInt8} {k : Nat} (hk : k < 26) (h : ∀ j : Nat, j < k → (nameL (j : Int) == s) = false) (he : (nameL (k : Int) == s) = true) : opOf s = k := by
  unfold opOf
  have hs : (List.range 26).map (fun k : Nat => (k : Int)) = (List.range k).map (fun k : Nat => (k : Int)) ++ (k : Int) :: ((List.range' (k + 1) (25 - k)).map fun k : Nat => (k : Int)) := by
    have : List.range 26 = List.range k ++ k :: List.range' (k + 1) (25 - k) := by
      have h1 := @List.range'_append_1 0 k (25 - k + 1)
      simp only [Nat.zero_add] at h1
      rw [List.range_eq_range', List.range_eq_range', ← List.range'_succ, h1]
      congr 1
      omega
    rw [this]
    simp
  have hc := List.find?_cons_of_pos (p := fun k => nameL k == s) (l := ((List.range' (k + 1) (25 - k)).map fun k : Nat => (k : Int))) (a := (k : Int)) he
  rw [hs, List.find?_append, List.find?_eq_none.2, hc]
  · rfl
  · intro x hx
    obtain ⟨j, hj, rfl⟩ := List.mem_map.1 hx
    rw [h j (List.mem_range.1 hj)]
    simp
set_option maxRecDepth 100000 in
set_option maxHeartbeats 4000000 in
theorem opcode_any (s : List UInt8) (w : World) : Calls Tryz.prog 49 #[.string (S s)] w fun e w' => e = .returned (.int .i64 (opOf s)) ∧ Below w.heap.size w w' := by
  go_enter Tryz.func49, Tryz.ntmps49
  go_wp2_with fail
  refine (shapes_any _).mono ?_
  rintro e w1 ⟨rfl, hb⟩
  have HB := Lib.hid hb
  clear hb
  have HT := zv53
  generalize hta : (Value.agg tabA) = TA
  have HTA := Lib.hid hta
  clear hta
  go_wp2_with fail
  go_loopw [3, 4, 6] (fun _ _ i wr => ∃ k : Nat, i = .int .i64 k ∧ k ≤ 26 ∧ Hid (∀ j : Nat, j < k → (nameL (j : Int) == s) = false) ∧ Hid (Below w.heap.size w wr)) (fun _ _ i _ => 26 - (intOf i).toNat)
  case atStart => exact ⟨0, rfl, by omega, Lib.hid (fun j hj => absurd hj (by omega)), HB⟩
  case round =>
    obtain ⟨k, rfl, hk, HM, HR⟩ := hrel
    by_cases hlt : k < 26
    · have q1 : decide ((k : Int) < 26) = true := by simp; omega
      have hx := tab_at0 k hlt wr
      rw [HTA.out] at hx
      obtain ⟨nm, hnm⟩ : ∃ n, n = (sh (k : Int)).1 := ⟨_, rfl⟩
      have HNM := Lib.hid hnm
      clear hnm
      go_upto_region 4 with fail
      obtain ⟨w2, hw2⟩ : ∃ X, Hid (X = wr.alloc (.cells #[.string (sh (k : Int)).1, .string (sh (k : Int)).2.1, .string (sh (k : Int)).2.2.1, .string (sh (k : Int)).2.2.2] 90)) := ⟨_, rfl⟩
      have HB2 := Lib.hid (show Below w.heap.size w w2 by rw [hw2.out]; exact HR.out.alloc HR.out.size _)
      have HC := Lib.hid (show w2.cell? ⟨wr.heap.size, 0, none⟩ = some (.string nm) by rw [hw2.out, HNM.out]; exact (Blk.new wr 90 _).cell 0)
      have HLT := Lib.hid (show wr.heap.size < w2.heap.size by rw [hw2.out]; simp)
      rw [← hw2.out]
      clear hw2
      obtain ⟨b, hb⟩ : ∃ b, Hid (b = wr.heap.size) := ⟨_, rfl⟩
      rw [← hb.out] at HC HLT ⊢
      have c0 := HC.out
      have cl := HLT.out
      by_cases he : nm = S s
      · have HE := Lib.hid he
        have q2 : (nm.toList == (S s).toList) = true := by rw [he]; simp
        have HO := Lib.hid (show opOf s = k from opOf_hit hlt HM.out (by rw [beq_iff_eq]; unfold nameL; rw [← HNM.out, HE.out]; exact S_list s))
        clear he
        go_wp2_with fail
        go_ret
        exact ⟨ret_int HO.out.symm, HB2.out⟩
      · have HE := Lib.hid he
        have q2 : (nm.toList == (S s).toList) = false := by
          rw [beq_eq_false_iff_ne]
          intro e
          rw [ByteArray.toList_eq, ByteArray.toList_eq] at e
          exact he (by rw [← S_eta nm, e]; exact S_eta _)
        clear he
        go_wp2_with fail
        refine ⟨⟨k + 1, by simp, by omega, Lib.hid ?_, HB2⟩, by simp [intOf]; omega⟩
        intro j hj
        rcases Nat.lt_or_ge j k with h | h
        · exact HM.out j h
        · obtain rfl : j = k := by omega
          rw [beq_eq_false_iff_ne]
          intro e
          exact HE.out (by rw [HNM.out, ← e]; exact (S_eta _).symm)
    · have q1 : decide ((k : Int) < 26) = false := by simp; omega
      have HO := Lib.hid (opOf_miss fun j hj => HM.out j (by omega))
      go_wp2_with fail
      go_ret
      exact ⟨ret_int HO.out.symm, HR.out⟩
end
end Go.Proofs.YtbipeakinmbdiaaGreatDoor
