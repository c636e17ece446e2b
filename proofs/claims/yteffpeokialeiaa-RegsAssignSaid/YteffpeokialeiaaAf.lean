/-
  Walks: code.formed.
-/
import Derived.Test.YteffpeokialeiaaAe
import Derived.Lib.OthersKept
import Derived.Outline
import Derived.BigRegion
namespace Go.Proofs.Yteffpeokialeiaa
open Go.RowKit

section
variable {w : World} {b : Nat} {y : In}
theorem BoxI.setR (h : BoxI w b y) (v : Int) : BoxI (w.setCell ⟨b, 1, none⟩ (.int .i64 v)) b { y with r := v } := Blk.set_ h 1 _
theorem BoxI.setA (h : BoxI w b y) (v : Int) : BoxI (w.setCell ⟨b, 2, none⟩ (.int .i64 v)) b { y with a := v } := Blk.set_ h 2 _
theorem BoxI.setN (h : BoxI w b y) (v : Int) : BoxI (w.setCell ⟨b, 3, none⟩ (.int .i64 v)) b { y with n := v } := Blk.set_ h 3 _
theorem BoxI.setNm (h : BoxI w b y) (v : ByteArray) : BoxI (w.setCell ⟨b, 4, none⟩ (.string v)) b { y with nm := v } := Blk.set_ h 4 _
theorem BoxI.setAr (h : BoxI w b y) (v : Int) : BoxI (w.setCell ⟨b, 5, none⟩ (.int .i64 v)) b { y with ar := v } := Blk.set_ h 5 _
end
/-- where the walk of formed stands: the instruction, what is wanted, the iterator -/
def FoAt (w0 wr : World) (b1 b5 it : Nat) (s : ByteArray) (x y : In) (k : Nat) : Prop :=
  (BoxI wr b1 x ∧ BoxI wr b5 y) ∧ wr.heap[it]? = some (.stringIter s k) ∧ Below w0.heap.size w0 wr ∧ (b1 < b5 ∧ b5 < it ∧ w0.heap.size ≤ b1)
theorem FoAt.next {w0 wr : World} {b1 b5 it : Nat} {s : ByteArray} {x y : In} {k j : Nat} (h : FoAt w0 wr b1 b5 it s x y k) : FoAt w0 (wr.iterAt it s j) b1 b5 it s x y j := by
  obtain ⟨⟨h1, h2⟩, h3, h4, h5, h6, h7⟩ := h
  refine ⟨⟨(Lib.iterAt_other _ _ _ _ _ (by omega)).trans h1, (Lib.iterAt_other _ _ _ _ _ (by omega)).trans h2⟩, Lib.iterAt_heap _ _ _ _ _ h3, ?_, h5, h6, h7⟩
  exact ⟨h4.os, h4.tape, h4.output, by simpa [World.iterAt] using h4.size, fun g hg => (Lib.iterAt_other _ _ _ _ _ (by omega)).trans (h4.block g hg)⟩
theorem FoAt.set_ {w0 wr : World} {b1 b5 it : Nat} {s : ByteArray} {x y y' : In} {k : Nat} (h : FoAt w0 wr b1 b5 it s x y k) {i : Nat} {v : Value}
    (h2 : BoxI (wr.setCell ⟨b5, i, none⟩ v) b5 y') : FoAt w0 (wr.setCell ⟨b5, i, none⟩ v) b1 b5 it s x y' k := by
  obtain ⟨⟨h1, _⟩, h3, h4, h5, h6, h7⟩ := h
  exact ⟨⟨h1.far (by show b1 ≠ b5; omega) _, h2⟩, (heap_setCell_other _ _ _ _ (by show it ≠ b5; omega)).trans h3, h4.setCell (by show w0.heap.size ≤ b5; omega) _, h5, h6, h7⟩
theorem next_lit {w : World} {it : Nat} {s : ByteArray} {k : Nat} (h : k < s.size) (hk : w.heap[it]? = some (.stringIter s k)) {c : UInt8} (hc : s[k]'h = c) (ha : c.toNat < 128) (n : Int) (hn : (c.toNat : Int) = n) (ty : TypeId) :
    (Instr.next (.pointer (some ⟨it, 0, none⟩)) true ty).run Try.prog w = .ok (.tuple #[.bool true, .int .i64 k, .int .i32 n]) (w.iterAt it s (k + 1)) := by
  subst hc hn
  exact Lib.run_next_ascii_at w it s k ty hk h ha
theorem FoAt.drew {w0 wr : World} {b1 b5 it : Nat} {s : ByteArray} {x y : In} {k : Nat} (h : FoAt w0 wr b1 b5 it s x y k) : FoAt w0 wr.drew b1 b5 it s x y k := by
  obtain ⟨⟨h1, h2⟩, h3, h4, h5⟩ := h
  exact ⟨⟨h1, h2⟩, h3, h4.drew, h5⟩
theorem FoAt.later {w0 wr w2 : World} {b1 b5 it : Nat} {s : ByteArray} {x y : In} {k : Nat} (h : FoAt w0 wr b1 b5 it s x y k) (hb : Below wr.heap.size wr w2) : FoAt w0 w2 b1 b5 it s x y k := by
  obtain ⟨⟨h1, h2⟩, h3, h4, h5⟩ := h
  have hlt : it < wr.heap.size := (Array.getElem?_eq_some_iff.1 h3).1
  exact ⟨⟨h1.next hb, h2.next hb⟩, (hb.block it hlt).trans h3, bNext h4 hb, h5⟩
theorem FoAt.start {w w1 : World} {x y : In} (hb : Below w.heap.size w w1) (hx : BoxI w1 w.heap.size x) (hz : w.heap.size < w1.heap.size) (o : Obj) (s : ByteArray) :
    FoAt w (((w1.alloc o).alloc (.cells #[.int .i64 y.op, .int .i64 y.r, .int .i64 y.a, .int .i64 y.n, .string y.nm, .int .i64 y.ar] 23)).iter s 0) w.heap.size (w1.heap.size + 1) (w1.heap.size + 1 + 1) s x y 0 := by
  have e1 : (w1.alloc o).heap.size = w1.heap.size + 1 := by simp
  have e2 : ((w1.alloc o).alloc (.cells #[.int .i64 y.op, .int .i64 y.r, .int .i64 y.a, .int .i64 y.n, .string y.nm, .int .i64 y.ar] 23)).heap.size = w1.heap.size + 1 + 1 := by simp
  refine ⟨⟨((hx.alloc _).alloc _).alloc _, ?_⟩, ?_, ((hb.alloc (by omega) _).alloc (by omega) _).alloc (by omega) _, by omega, by omega, Nat.le_refl _⟩
  · have := BoxI.new (w1.alloc o) y
    rw [e1] at this
    exact this.alloc _
  · have := World.iter_heap ((w1.alloc o).alloc (.cells #[.int .i64 y.op, .int .i64 y.r, .int .i64 y.a, .int .i64 y.n, .string y.nm, .int .i64 y.ar] 23)) s 0
    rw [e2] at this
    exact this
theorem FoAt.pos {w0 wr : World} {b1 b5 it : Nat} {s : ByteArray} {x y : In} {k : Nat} (h : FoAt w0 wr b1 b5 it s x y k) : wr.iterPos it = k := by unfold World.iterPos; rw [h.2.1]
theorem okF_snoc {x : In} {l : List UInt8} {k : Nat} {c : UInt8} (hc : l[k]? = some c) (o : Bool) : (o && (l.take (k + 1)).all (fieldOk x)) = ((o && (l.take k).all (fieldOk x)) && fieldOk x c) := by
  rw [List.take_add_one, hc]; simp [Bool.and_assoc]
theorem want_snoc {x : In} {l : List UInt8} {k : Nat} {c : UInt8} (hc : l[k]? = some c) : wantOf x (l.take (k + 1)) = wantStep x (wantOf x (l.take k)) c := by
  unfold wantOf; rw [List.take_add_one, hc]; simp

set_option maxRecDepth 100000 in
set_option maxHeartbeats 1000000 in
theorem formed_any (x : In) (w : World) : Calls Try.prog 51 #[x.v] w fun e w' => e = .returned (.bool (fo x)) ∧ Below w.heap.size w w' := by
  go_enter Try.func51, Try.ntmps51
  go_wp2_with fail
  refine (shapeOf_any _ _).mono ?_
  rintro e w1 ⟨rfl, hb⟩
  have hx1 := (BoxI.new w x).next hb
  have HB := Lib.hid (bStart hb)
  have hz : w.heap.size < w1.heap.size := by have := hb.size; simp at this; omega
  clear hb
  have HX := Lib.hid hx1
  obtain ⟨q0, q1, q2, q3, q4, q5⟩ := BoxI.cells hx1
  clear hx1
  go_wp2_with fail
  have HZ := Lib.hid hz
  clear hz q0 q1 q2 q3 q4 q5
  go_loopw [4] (fun ok wr => ∃ k : Nat, k ≤ (sh x.op).2.1.size ∧ ok = .bool (okOp x.op && ((flds x.op).take k).all (fieldOk x)) ∧
      Hid (FoAt w wr w.heap.size (w1.heap.size + 1) (w1.heap.size + 1 + 1) (sh x.op).2.1 x (wantOf x ((flds x.op).take k)) k)) (fun _ wr => (sh x.op).2.1.size - wr.iterPos (w1.heap.size + 1 + 1))
  case atStart =>
    exact ⟨0, Nat.zero_le _, by simp, Lib.hid (FoAt.start (y := ⟨x.op, 0, 0, 0, ⟨#[]⟩, 0⟩) HB.out HX.out HZ.out _ _)⟩
  case round =>
    obtain ⟨k, hk, rfl, HF⟩ := hrel
    generalize hit : w1.heap.size + 1 + 1 = it at HF ⊢
    generalize hb5 : w1.heap.size + 1 = b5 at HF ⊢
    have HI := Lib.hid (And.intro hit hb5)
    clear hit hb5
    generalize hss : (sh x.op).2.1 = s at HF hk ⊢
    generalize hok : (okOp x.op && ((flds x.op).take k).all (fieldOk x)) = ok
    generalize hy : wantOf x ((flds x.op).take k) = y at HF
    have HSS := Lib.hid (And.intro hss (And.intro hok hy))
    clear hss hok hy
    by_cases hlt : k < s.size
    · have hget : (flds x.op)[k]? = some (s[k]'hlt) := by
        unfold flds; rw [HSS.out.1]; simp [hlt]; rfl
      have hmem := flds_mem x.op _ (List.mem_of_getElem? hget)
      generalize hc : s[k]'hlt = c at hget hmem
      have HC := Lib.hid hc
      have HG := Lib.hid hget
      clear hc hget
      obtain ⟨w2, hw2⟩ : ∃ w2, w2 = wr.iterAt it s (k + 1) := ⟨_, rfl⟩
      have HN : Hid (FoAt w w2 w.heap.size b5 it s x y (k + 1)) := by rw [hw2]; exact Lib.hid HF.out.next
      have HW := Lib.hid hw2
      clear hw2
      obtain ⟨p0, p1, p2, p3, p4, p5⟩ := BoxI.cells HN.out.1.1
      obtain ⟨r0, r1, r2, r3, r4, r5⟩ := BoxI.cells HN.out.1.2
      obtain ⟨f0, f1, f2, f3, f4, f5⟩ := BoxI.open_ HN.out.1.2
      have hne : ¬ w.heap.size = b5 := by have := HN.out.2.2.2; omega
      have hne2 : ¬ b5 = w.heap.size := by have := HN.out.2.2.2; omega
      rcases hmem with rfl | rfl | rfl | rfl | rfl | rfl | rfl | rfl
      · have hn := fun ty => next_lit hlt HF.out.2.1 HC.out (by decide) 114 rfl ty
        rw [← HW.out] at hn
        have HR : Hid (FoAt w (w2.setCell ⟨b5, 1, none⟩ (.int .i64 x.r)) w.heap.size b5 it s x (wantStep x y 114) (k + 1)) := Lib.hid (HN.out.set_ (BoxI.setR HN.out.1.2 _))
        go_wp2_with fail
        all_goals try (have e0 : x.r = 0 := by assumption
                       rw [e0] at HR)
        all_goals refine ⟨⟨k + 1, by omega, ?_, by rw [want_snoc HG.out, HSS.out.2.2]; exact HR⟩, by have e1 := HR.out.pos; have e2 := HF.out.pos; omega⟩
        all_goals rw [okF_snoc HG.out, HSS.out.2.1, show fieldOk x 114 = rOk x.r from rfl]
        all_goals first | rfl | (simp [rOk, *]; done) | (simp [rOk, *]; omega)
      · have hn := fun ty => next_lit hlt HF.out.2.1 HC.out (by decide) 97 rfl ty
        rw [← HW.out] at hn
        have HR : Hid (FoAt w (w2.setCell ⟨b5, 2, none⟩ (.int .i64 x.a)) w.heap.size b5 it s x (wantStep x y 97) (k + 1)) := Lib.hid (HN.out.set_ (BoxI.setA HN.out.1.2 _))
        go_wp2_with fail
        all_goals refine ⟨⟨k + 1, by omega, ?_, by rw [want_snoc HG.out, HSS.out.2.2]; exact HR⟩, by have e1 := HR.out.pos; have e2 := HF.out.pos; omega⟩
        all_goals rw [okF_snoc HG.out, HSS.out.2.1, show fieldOk x 97 = aOk x.a from rfl]
        all_goals first | rfl | (simp [aOk, *]; done) | (simp [aOk, *]; omega)
      · have hn := fun ty => next_lit hlt HF.out.2.1 HC.out (by decide) 110 rfl ty
        rw [← HW.out] at hn
        have HR : Hid (FoAt w (w2.setCell ⟨b5, 3, none⟩ (.int .i64 x.n)) w.heap.size b5 it s x (wantStep x y 110) (k + 1)) := Lib.hid (HN.out.set_ (BoxI.setN HN.out.1.2 _))
        go_wp2_with fail
        all_goals refine ⟨⟨k + 1, by omega, ?_, by rw [want_snoc HG.out, HSS.out.2.2]; exact HR⟩, by have e1 := HR.out.pos; have e2 := HF.out.pos; omega⟩
        all_goals rw [okF_snoc HG.out, HSS.out.2.1, show fieldOk x 110 = true from rfl]
        all_goals first | rfl | (simp [*]; done) | (simp [*]; omega)
      · have hn := fun ty => next_lit hlt HF.out.2.1 HC.out (by decide) 118 rfl ty
        rw [← HW.out] at hn
        have HR : Hid (FoAt w (w2.setCell ⟨b5, 3, none⟩ (.int .i64 x.n)) w.heap.size b5 it s x (wantStep x y 118) (k + 1)) := Lib.hid (HN.out.set_ (BoxI.setN HN.out.1.2 _))
        go_wp2_with fail
        all_goals refine ⟨⟨k + 1, by omega, ?_, by rw [want_snoc HG.out, HSS.out.2.2]; exact HR⟩, by have e1 := HR.out.pos; have e2 := HF.out.pos; omega⟩
        all_goals rw [okF_snoc HG.out, HSS.out.2.1, show fieldOk x 118 = (decide (1 ≤ x.n) && decide (x.n ≤ 8)) from rfl]
        all_goals first | rfl | (simp [*]; done) | (simp [*]; omega)
      · have hn := fun ty => next_lit hlt HF.out.2.1 HC.out (by decide) 99 rfl ty
        rw [← HW.out] at hn
        have HR : Hid (FoAt w (w2.setCell ⟨b5, 3, none⟩ (.int .i64 x.n)) w.heap.size b5 it s x (wantStep x y 99) (k + 1)) := Lib.hid (HN.out.set_ (BoxI.setN HN.out.1.2 _))
        go_wp2_with fail
        all_goals refine ⟨⟨k + 1, by omega, ?_, by rw [want_snoc HG.out, HSS.out.2.2]; exact HR⟩, by have e1 := HR.out.pos; have e2 := HF.out.pos; omega⟩
        all_goals rw [okF_snoc HG.out, HSS.out.2.1, show fieldOk x 99 = (decide (0 ≤ x.n) && decide (x.n ≤ 4096)) from rfl]
        all_goals first | rfl | (simp [*]; done) | (simp [*]; omega)
      · have hn := fun ty => next_lit hlt HF.out.2.1 HC.out (by decide) 115 rfl ty
        rw [← HW.out] at hn
        have HR : Hid (FoAt w (w2.setCell ⟨b5, 4, none⟩ (.string x.nm)) w.heap.size b5 it s x (wantStep x y 115) (k + 1)) := Lib.hid (HN.out.set_ (BoxI.setNm HN.out.1.2 _))
        go_wp2_with fail
        all_goals refine ⟨⟨k + 1, by omega, ?_, by rw [want_snoc HG.out, HSS.out.2.2]; exact HR⟩, by have e1 := HR.out.pos; have e2 := HF.out.pos; omega⟩
        all_goals rw [okF_snoc HG.out, HSS.out.2.1, show fieldOk x 115 = nmOk x.nm from rfl]
        all_goals first | rfl | (simp [nmOk, *]; done) | (simp [nmOk, *]; omega)
      · have hn := fun ty => next_lit hlt HF.out.2.1 HC.out (by decide) 102 rfl ty
        rw [← HW.out] at hn
        have f45 : ¬ ((4 : Nat) = 5) := by decide
        have HR : Hid (FoAt w ((w2.setCell ⟨b5, 4, none⟩ (.string x.nm)).setCell ⟨b5, 5, none⟩ (.int .i64 x.ar)).drew w.heap.size b5 it s x (wantStep x y 102) (k + 1)) :=
          Lib.hid ((HN.out.set_ (BoxI.setNm HN.out.1.2 _)).set_ (BoxI.setAr (BoxI.setNm HN.out.1.2 _) _)).drew
        go_wp2_with fail
        go_region
        go_wp2_with fail
        all_goals refine ⟨⟨k + 1, by omega, ?_, by rw [want_snoc HG.out, HSS.out.2.2]; exact HR⟩, by have e1 := HR.out.pos; have e2 := HF.out.pos; omega⟩
        all_goals rw [okF_snoc HG.out, HSS.out.2.1, show fieldOk x 102 = (nmOk x.nm && (decide (1 ≤ x.ar) && decide (x.ar ≤ 8))) from rfl]
        all_goals first | rfl | (simp [nmOk, *]; done) | (simp [nmOk, *]; omega)
      · have hn := fun ty => next_lit hlt HF.out.2.1 HC.out (by decide) 112 rfl ty
        rw [← HW.out] at hn
        have f45 : ¬ ((4 : Nat) = 5) := by decide
        have HR : Hid (FoAt w (((w2.setCell ⟨b5, 4, none⟩ (.string x.nm)).setCell ⟨b5, 5, none⟩ (.int .i64 x.ar)).setCell ⟨b5, 3, none⟩ (.int .i64 x.n)).drew w.heap.size b5 it s x (wantStep x y 112) (k + 1)) :=
          Lib.hid (((HN.out.set_ (BoxI.setNm HN.out.1.2 _)).set_ (BoxI.setAr (BoxI.setNm HN.out.1.2 _) _)).set_ (BoxI.setN (BoxI.setAr (BoxI.setNm HN.out.1.2 _) _) _)).drew
        go_wp2_with fail
        go_region
        go_wp2_with fail
        · refine (validPred_any _ _ _ _).mono ?_
          rintro e w3 ⟨rfl, hb3⟩
          have HR3 := Lib.hid (HR.out.later hb3)
          clear hb3
          go_wp2_with fail
          all_goals refine ⟨⟨k + 1, by omega, ?_, by rw [want_snoc HG.out, HSS.out.2.2]; exact HR3⟩, by have e1 := HR3.out.pos; have e2 := HF.out.pos; omega⟩
          all_goals rw [okF_snoc HG.out, HSS.out.2.1, show fieldOk x 112 = pdOk x.nm x.ar x.n from rfl]
          all_goals first | rfl | (simp [*]; done)
        · refine ⟨⟨k + 1, by omega, ?_, by rw [want_snoc HG.out, HSS.out.2.2]; exact HR⟩, by have e1 := HR.out.pos; have e2 := HF.out.pos; omega⟩
          rw [okF_snoc HG.out, HSS.out.2.1]
          simp [*]
    · have hn := fun ty => Lib.run_next_end_at (P := Try.prog) wr it s k ty HF.out.2.1 hlt
      have HE : Hid (fo x = (ok && sameI x y)) := Lib.hid (by
        have hl : (flds x.op).length ≤ k := by unfold flds; rw [HSS.out.1]; simp; omega
        unfold fo
        rw [← HSS.out.2.1, ← HSS.out.2.2, List.take_of_length_le hl])
      obtain ⟨p0, p1, p2, p3, p4, p5⟩ := BoxI.cells HF.out.1.1
      obtain ⟨r0, r1, r2, r3, r4, r5⟩ := BoxI.cells HF.out.1.2
      go_wp2_with fail
      all_goals go_ret
      all_goals refine ⟨ret_bool ?_, HF.out.2.2.1⟩
      all_goals rw [HE.out]
      all_goals first | rfl | (simp [sameI, *]; done)
end Go.Proofs.Yteffpeokialeiaa
