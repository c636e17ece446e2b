/-
  Walks: tests on registers, names, predicates, both. Walks: code.formed. Walks: the reference's table of the opcodes.
-/
import Derived.Test.YtbipeakinmbdiaaGreatDoorKb
import Derived.Lib.OthersKept
import Derived.Outline
import Derived.BigRegion
namespace Go.Proofs.YtbipeakinmbdiaaGreatDoor
section
open Go.RowKit

theorem between_any (n a b : Int) (w : World) : Calls Tryz.prog 96 #[.int .i64 n, .int .i64 a, .int .i64 b] w fun e w' => e = .returned (.bool (decide (a ≤ n) && decide (n ≤ b))) ∧ w = w' := by
  go_enter Tryz.func96, Tryz.ntmps96
  go_wp2
  all_goals go_ret
  all_goals refine ⟨ret_bool ?_, rfl⟩
  all_goals first | (simp [*]; done) | (simp [*]; omega)
theorem named_any (s : ByteArray) (w : World) : Calls Tryz.prog 123 #[.string s] w fun e w' => e = .returned (.bool (nmOk s)) ∧ w = w' := by
  go_enter Tryz.func123, Tryz.ntmps123
  go_wp2
  all_goals go_ret
  all_goals refine ⟨ret_bool ?_, rfl⟩
  all_goals first | rfl | (simp [*]; done) | (simp [nmOk, *]; done) | (simp [*]; omega) | (simp [nmOk, *]; omega)
theorem register_any (r : Int) (w : World) : Calls Tryz.prog 122 #[.int .i64 r] w fun e w' => e = .returned (.bool (rOk r)) ∧ w = w' := by
  go_enter Tryz.func122, Tryz.ntmps122
  go_wp2_with (refine (between_any _ _ _ _).mono ?_; rintro e w' ⟨rfl, rfl⟩)
  all_goals go_ret
  all_goals refine ⟨ret_bool ?_, rfl⟩
  all_goals first | rfl | (simp [rOk, *]; done) | (simp [rOk, *]; omega)
theorem pd0 {s : ByteArray} {ar n : Int} (h : n = 0) : pdOk s ar n = (nmOk s && (decide (0 ≤ ar) && decide (ar ≤ 8))) := by unfold pdOk; rw [if_pos h]
theorem pd1 {s : ByteArray} {ar n : Int} (h : n ≠ 0) : pdOk s ar n = (s.toList.isEmpty && (decide (1 ≤ n) && (decide (n ≤ 1099511627776) && (decide (0 ≤ ar) && decide (ar ≤ 4096))))) := by unfold pdOk; rw [if_neg h]
theorem validPred_any (s : ByteArray) (ar n : Int) (w : World) : Calls Tryz.prog 67 #[.agg #[.string s, .int .i64 ar, .int .i64 n]] w fun e w' => e = .returned (.bool (pdOk s ar n)) ∧ Below w.heap.size w w' := by
  have key : ∀ b, b = pdOk s ar n → Ending.returned (.bool b) = .returned (.bool (pdOk s ar n)) := fun b h => by rw [h]
  by_cases hn : n = 0
  · have H := Lib.hid (pd0 (s := s) (ar := ar) hn)
    have h0 : (n == 0) = true := by simpa using hn
    clear hn
    go_enter Tryz.func67, Tryz.ntmps67
    go_wp2
    all_goals go_ret
    all_goals refine ⟨key _ ?_, bAlloc _ _⟩
    all_goals rw [H.out]
    all_goals first | rfl | (simp [*]; done) | (simp [nmOk, *]; done) | (simp [*]; omega) | (simp [nmOk, *]; omega)
  · have H := Lib.hid (pd1 (s := s) (ar := ar) hn)
    have h0 : (n == 0) = false := by simpa using hn
    clear hn
    go_enter Tryz.func67, Tryz.ntmps67
    go_wp2
    all_goals go_ret
    all_goals refine ⟨key _ ?_, bAlloc _ _⟩
    all_goals rw [H.out]
    all_goals first | rfl | (simp [*]; done) | (simp [*]; omega)
theorem ValidPred_any (s : ByteArray) (ar n : Int) (w : World) : Calls Tryz.prog 97 #[.agg #[.string s, .int .i64 ar, .int .i64 n]] w fun e w' => e = .returned (.bool (pdOk s ar n)) ∧ Below w.heap.size w w' := by
  have key : ∀ b, b = pdOk s ar n → Ending.returned (.bool b) = .returned (.bool (pdOk s ar n)) := fun b h => by rw [h]
  by_cases hn : n = 0
  · have H := Lib.hid (pd0 (s := s) (ar := ar) hn)
    have h0 : (n == 0) = true := by simpa using hn
    clear hn
    go_enter Tryz.func97, Tryz.ntmps97
    go_wp2_with (first | (refine (between_any _ _ _ _).mono ?_; rintro e w' ⟨rfl, rfl⟩) | (refine (named_any _ _).mono ?_; rintro e w' ⟨rfl, rfl⟩))
    all_goals go_ret
    all_goals refine ⟨key _ ?_, bAlloc _ _⟩
    all_goals rw [H.out]
    all_goals first | rfl | (simp [*]; done) | (simp [nmOk, *]; done) | (simp [*]; omega) | (simp [nmOk, *]; omega)
  · have H := Lib.hid (pd1 (s := s) (ar := ar) hn)
    have h0 : (n == 0) = false := by simpa using hn
    clear hn
    go_enter Tryz.func97, Tryz.ntmps97
    go_wp2_with (first | (refine (between_any _ _ _ _).mono ?_; rintro e w' ⟨rfl, rfl⟩) | (refine (named_any _ _).mono ?_; rintro e w' ⟨rfl, rfl⟩))
    all_goals go_ret
    all_goals refine ⟨key _ ?_, bAlloc _ _⟩
    all_goals rw [H.out]
    all_goals first | rfl | (simp [*]; done) | (simp [*]; omega)
end
section
open Go.RowKit

section
variable {w : World} {b : Nat} {y : In}
theorem BoxI.setR (h : BoxI w b y) (v : Int) : BoxI (w.setCell ⟨b, 1, none⟩ (.int .i64 v)) b { y with r := v } := Blk.set_ h 1 _
theorem BoxI.setA (h : BoxI w b y) (v : Int) : BoxI (w.setCell ⟨b, 2, none⟩ (.int .i64 v)) b { y with a := v } := Blk.set_ h 2 _
theorem BoxI.setN (h : BoxI w b y) (v : Int) : BoxI (w.setCell ⟨b, 3, none⟩ (.int .i64 v)) b { y with n := v } := Blk.set_ h 3 _
theorem BoxI.setNm (h : BoxI w b y) (v : ByteArray) : BoxI (w.setCell ⟨b, 4, none⟩ (.string v)) b { y with nm := v } := Blk.set_ h 4 _
theorem BoxI.setAr (h : BoxI w b y) (v : Int) : BoxI (w.setCell ⟨b, 5, none⟩ (.int .i64 v)) b { y with ar := v } := Blk.set_ h 5 _
end
/-- where the walk of formed stands: the instruction, what is wanted, the iterator -/
def FoAt (w0 wr : World) (b1 b5 it : Nat) (s : ByteArray) (x y : In) (k : Nat) : Prop :=
  (BoxI wr b1 x ∧ BoxI wr b5 y) ∧ wr.heap[it]? = some (.stringIter s k) ∧ Below w0.heap.size w0 wr ∧ (b1 < b5 ∧ b5 < it ∧ w0.heap.size ≤ b1)
theorem FoAt.next {w0 wr : World} {b1 b5 it : Nat} {s : ByteArray} {x y : In} {k j : Nat} (h : FoAt w0 wr b1 b5 it s x y k) : FoAt w0 (wr.iterAt it s j) b1 b5 it s x y j := by
  obtain ⟨⟨h1, h2⟩, h3, h4, h5, h6, h7⟩ := h
  refine ⟨⟨(Lib.iterAt_other _ _ _ _ _ (by omega)).trans h1, (Lib.iterAt_other _ _ _ _ _ (by omega)).trans h2⟩, Lib.iterAt_heap _ _ _ _ _ h3, ?_, h5, h6, h7⟩
  exact ⟨h4.os, h4.tape, h4.output, by simpa [World.iterAt] using h4.size, fun g hg => (Lib.iterAt_other _ _ _ _ _ (by omega)).trans (h4.block g hg)⟩
theorem FoAt.set_ {w0 wr : World} {b1 b5 it : Nat} {s : ByteArray} {x y y' : In} {k : Nat} (h : FoAt w0 wr b1 b5 it s x y k) {i : Nat} {v : Value}
    (h2 : BoxI (wr.setCell ⟨b5, i, none⟩ v) b5 y') : FoAt w0 (wr.setCell ⟨b5, i, none⟩ v) b1 b5 it s x y' k := by
  obtain ⟨⟨h1, _⟩, h3, h4, h5, h6, h7⟩ := h
  exact ⟨⟨h1.far (by show b1 ≠ b5; omega) _, h2⟩, (heap_setCell_other _ _ _ _ (by show it ≠ b5; omega)).trans h3, h4.setCell (by show w0.heap.size ≤ b5; omega) _, h5, h6, h7⟩
theorem next_lit {w : World} {it : Nat} {s : ByteArray} {k : Nat} (h : k < s.size) (hk : w.heap[it]? = some (.stringIter s k)) {c : UInt8} (hc : s[k]'h = c) (ha : c.toNat < 128) (n : Int) (hn : (c.toNat : Int) = n) (ty : TypeId) :
    (Instr.next (.pointer (some ⟨it, 0, none⟩)) true ty).run Tryz.prog w = .ok (.tuple #[.bool true, .int .i64 k, .int .i32 n]) (w.iterAt it s (k + 1)) := by
  subst hc hn
  exact Lib.run_next_ascii_at w it s k ty hk h ha
theorem FoAt.drew {w0 wr : World} {b1 b5 it : Nat} {s : ByteArray} {x y : In} {k : Nat} (h : FoAt w0 wr b1 b5 it s x y k) : FoAt w0 wr.drew b1 b5 it s x y k := by
  obtain ⟨⟨h1, h2⟩, h3, h4, h5⟩ := h
  exact ⟨⟨h1, h2⟩, h3, h4.drew, h5⟩
theorem FoAt.later {w0 wr w2 : World} {b1 b5 it : Nat} {s : ByteArray} {x y : In} {k : Nat} (h : FoAt w0 wr b1 b5 it s x y k) (hb : Below wr.heap.size wr w2) : FoAt w0 w2 b1 b5 it s x y k := by
  obtain ⟨⟨h1, h2⟩, h3, h4, h5⟩ := h
  have hlt : it < wr.heap.size := (Array.getElem?_eq_some_iff.1 h3).1
  exact ⟨⟨h1.next hb, h2.next hb⟩, (hb.block it hlt).trans h3, bNext h4 hb, h5⟩
theorem FoAt.start {w w1 : World} {x y : In} (hb : Below w.heap.size w w1) (hx : BoxI w1 w.heap.size x) (hz : w.heap.size < w1.heap.size) (o : Obj) (s : ByteArray) :
    FoAt w (((w1.alloc o).alloc (.cells #[.int .i64 y.op, .int .i64 y.r, .int .i64 y.a, .int .i64 y.n, .string y.nm, .int .i64 y.ar] 34)).iter s 0) w.heap.size (w1.heap.size + 1) (w1.heap.size + 1 + 1) s x y 0 := by
  have e1 : (w1.alloc o).heap.size = w1.heap.size + 1 := by simp
  have e2 : ((w1.alloc o).alloc (.cells #[.int .i64 y.op, .int .i64 y.r, .int .i64 y.a, .int .i64 y.n, .string y.nm, .int .i64 y.ar] 34)).heap.size = w1.heap.size + 1 + 1 := by simp
  refine ⟨⟨((hx.alloc _).alloc _).alloc _, ?_⟩, ?_, ((hb.alloc (by omega) _).alloc (by omega) _).alloc (by omega) _, by omega, by omega, Nat.le_refl _⟩
  · have := BoxI.new (w1.alloc o) y
    rw [e1] at this
    exact this.alloc _
  · have := World.iter_heap ((w1.alloc o).alloc (.cells #[.int .i64 y.op, .int .i64 y.r, .int .i64 y.a, .int .i64 y.n, .string y.nm, .int .i64 y.ar] 34)) s 0
    rw [e2] at this
    exact this
theorem FoAt.pos {w0 wr : World} {b1 b5 it : Nat} {s : ByteArray} {x y : In} {k : Nat} (h : FoAt w0 wr b1 b5 it s x y k) : wr.iterPos it = k := by unfold World.iterPos; rw [h.2.1]
theorem okF_snoc {x : In} {l : List UInt8} {k : Nat} {c : UInt8} (hc : l[k]? = some c) (o : Bool) : (o && (l.take (k + 1)).all (fieldOk x)) = ((o && (l.take k).all (fieldOk x)) && fieldOk x c) := by
  rw [List.take_add_one, hc]; simp [Bool.and_assoc]
theorem want_snoc {x : In} {l : List UInt8} {k : Nat} {c : UInt8} (hc : l[k]? = some c) : wantOf x (l.take (k + 1)) = wantStep x (wantOf x (l.take k)) c := by
  unfold wantOf; rw [List.take_add_one, hc]; simp

set_option maxRecDepth 100000 in
set_option maxHeartbeats 1000000 in
theorem formed_any (x : In) (w : World) : Calls Tryz.prog 33 #[x.v] w fun e w' => e = .returned (.bool (fo x)) ∧ Below w.heap.size w w' := by
  go_enter Tryz.func33, Tryz.ntmps33
  go_wp2_with fail
  refine (shapeOf_any _ _).mono ?_
  rintro e w1 ⟨rfl, hb⟩
  have hx1 := (BoxI.new w x).next hb
  have HB := Lib.hid (bStart hb)
  have hz : w.heap.size < w1.heap.size := by have := hb.size; simp at this; omega
  clear hb
  have HX := Lib.hid hx1
  obtain ⟨q0, q1, q2, q3, q4, q5⟩ := BoxI.cells hx1
  clear hx1
  go_wp2_with fail
  have HZ := Lib.hid hz
  clear hz q0 q1 q2 q3 q4 q5
  go_loopw [4] (fun ok wr => ∃ k : Nat, k ≤ (sh x.op).2.1.size ∧ ok = .bool (okOp x.op && ((flds x.op).take k).all (fieldOk x)) ∧
      Hid (FoAt w wr w.heap.size (w1.heap.size + 1) (w1.heap.size + 1 + 1) (sh x.op).2.1 x (wantOf x ((flds x.op).take k)) k)) (fun _ wr => (sh x.op).2.1.size - wr.iterPos (w1.heap.size + 1 + 1))
  case atStart =>
    exact ⟨0, Nat.zero_le _, by simp, Lib.hid (FoAt.start (y := ⟨x.op, 0, 0, 0, ⟨#[]⟩, 0⟩) HB.out HX.out HZ.out _ _)⟩
  case round =>
    obtain ⟨k, hk, rfl, HF⟩ := hrel
    generalize hit : w1.heap.size + 1 + 1 = it at HF ⊢
    generalize hb5 : w1.heap.size + 1 = b5 at HF ⊢
    have HI := Lib.hid (And.intro hit hb5)
    clear hit hb5
    generalize hss : (sh x.op).2.1 = s at HF hk ⊢
    generalize hok : (okOp x.op && ((flds x.op).take k).all (fieldOk x)) = ok
    generalize hy : wantOf x ((flds x.op).take k) = y at HF
    have HSS := Lib.hid (And.intro hss (And.intro hok hy))
    clear hss hok hy
    by_cases hlt : k < s.size
    · have hget : (flds x.op)[k]? = some (s[k]'hlt) := by
        unfold flds; rw [HSS.out.1]; simp [hlt]; rfl
      have hmem := flds_mem x.op _ (List.mem_of_getElem? hget)
      generalize hc : s[k]'hlt = c at hget hmem
      have HC := Lib.hid hc
      have HG := Lib.hid hget
      clear hc hget
      obtain ⟨w2, hw2⟩ : ∃ w2, w2 = wr.iterAt it s (k + 1) := ⟨_, rfl⟩
      have HN : Hid (FoAt w w2 w.heap.size b5 it s x y (k + 1)) := by rw [hw2]; exact Lib.hid HF.out.next
      have HW := Lib.hid hw2
      clear hw2
      obtain ⟨p0, p1, p2, p3, p4, p5⟩ := BoxI.cells HN.out.1.1
      obtain ⟨r0, r1, r2, r3, r4, r5⟩ := BoxI.cells HN.out.1.2
      obtain ⟨f0, f1, f2, f3, f4, f5⟩ := BoxI.open_ HN.out.1.2
      have hne : ¬ w.heap.size = b5 := by have := HN.out.2.2.2; omega
      have hne2 : ¬ b5 = w.heap.size := by have := HN.out.2.2.2; omega
      rcases hmem with rfl | rfl | rfl | rfl | rfl | rfl | rfl | rfl
      · have hn := fun ty => next_lit hlt HF.out.2.1 HC.out (by decide) 114 rfl ty
        rw [← HW.out] at hn
        have HR : Hid (FoAt w (w2.setCell ⟨b5, 1, none⟩ (.int .i64 x.r)) w.heap.size b5 it s x (wantStep x y 114) (k + 1)) := Lib.hid (HN.out.set_ (BoxI.setR HN.out.1.2 _))
        go_wp2_with fail
        all_goals try (have e0 : x.r = 0 := by assumption
                       rw [e0] at HR)
        all_goals refine ⟨⟨k + 1, by omega, ?_, by rw [want_snoc HG.out, HSS.out.2.2]; exact HR⟩, by have e1 := HR.out.pos; have e2 := HF.out.pos; omega⟩
        all_goals rw [okF_snoc HG.out, HSS.out.2.1, show fieldOk x 114 = rOk x.r from rfl]
        all_goals first | rfl | (simp [rOk, *]; done) | (simp [rOk, *]; omega)
      · have hn := fun ty => next_lit hlt HF.out.2.1 HC.out (by decide) 97 rfl ty
        rw [← HW.out] at hn
        have HR : Hid (FoAt w (w2.setCell ⟨b5, 2, none⟩ (.int .i64 x.a)) w.heap.size b5 it s x (wantStep x y 97) (k + 1)) := Lib.hid (HN.out.set_ (BoxI.setA HN.out.1.2 _))
        go_wp2_with fail
        all_goals refine ⟨⟨k + 1, by omega, ?_, by rw [want_snoc HG.out, HSS.out.2.2]; exact HR⟩, by have e1 := HR.out.pos; have e2 := HF.out.pos; omega⟩
        all_goals rw [okF_snoc HG.out, HSS.out.2.1, show fieldOk x 97 = aOk x.a from rfl]
        all_goals first | rfl | (simp [aOk, *]; done) | (simp [aOk, *]; omega)
      · have hn := fun ty => next_lit hlt HF.out.2.1 HC.out (by decide) 110 rfl ty
        rw [← HW.out] at hn
        have HR : Hid (FoAt w (w2.setCell ⟨b5, 3, none⟩ (.int .i64 x.n)) w.heap.size b5 it s x (wantStep x y 110) (k + 1)) := Lib.hid (HN.out.set_ (BoxI.setN HN.out.1.2 _))
        go_wp2_with fail
        all_goals refine ⟨⟨k + 1, by omega, ?_, by rw [want_snoc HG.out, HSS.out.2.2]; exact HR⟩, by have e1 := HR.out.pos; have e2 := HF.out.pos; omega⟩
        all_goals rw [okF_snoc HG.out, HSS.out.2.1, show fieldOk x 110 = true from rfl]
        all_goals first | rfl | (simp [*]; done) | (simp [*]; omega)
      · have hn := fun ty => next_lit hlt HF.out.2.1 HC.out (by decide) 118 rfl ty
        rw [← HW.out] at hn
        have HR : Hid (FoAt w (w2.setCell ⟨b5, 3, none⟩ (.int .i64 x.n)) w.heap.size b5 it s x (wantStep x y 118) (k + 1)) := Lib.hid (HN.out.set_ (BoxI.setN HN.out.1.2 _))
        go_wp2_with fail
        all_goals refine ⟨⟨k + 1, by omega, ?_, by rw [want_snoc HG.out, HSS.out.2.2]; exact HR⟩, by have e1 := HR.out.pos; have e2 := HF.out.pos; omega⟩
        all_goals rw [okF_snoc HG.out, HSS.out.2.1, show fieldOk x 118 = (decide (1 ≤ x.n) && decide (x.n ≤ 8)) from rfl]
        all_goals first | rfl | (simp [*]; done) | (simp [*]; omega)
      · have hn := fun ty => next_lit hlt HF.out.2.1 HC.out (by decide) 99 rfl ty
        rw [← HW.out] at hn
        have HR : Hid (FoAt w (w2.setCell ⟨b5, 3, none⟩ (.int .i64 x.n)) w.heap.size b5 it s x (wantStep x y 99) (k + 1)) := Lib.hid (HN.out.set_ (BoxI.setN HN.out.1.2 _))
        go_wp2_with fail
        all_goals refine ⟨⟨k + 1, by omega, ?_, by rw [want_snoc HG.out, HSS.out.2.2]; exact HR⟩, by have e1 := HR.out.pos; have e2 := HF.out.pos; omega⟩
        all_goals rw [okF_snoc HG.out, HSS.out.2.1, show fieldOk x 99 = (decide (0 ≤ x.n) && decide (x.n ≤ 4096)) from rfl]
        all_goals first | rfl | (simp [*]; done) | (simp [*]; omega)
      · have hn := fun ty => next_lit hlt HF.out.2.1 HC.out (by decide) 115 rfl ty
        rw [← HW.out] at hn
        have HR : Hid (FoAt w (w2.setCell ⟨b5, 4, none⟩ (.string x.nm)) w.heap.size b5 it s x (wantStep x y 115) (k + 1)) := Lib.hid (HN.out.set_ (BoxI.setNm HN.out.1.2 _))
        go_wp2_with fail
        all_goals refine ⟨⟨k + 1, by omega, ?_, by rw [want_snoc HG.out, HSS.out.2.2]; exact HR⟩, by have e1 := HR.out.pos; have e2 := HF.out.pos; omega⟩
        all_goals rw [okF_snoc HG.out, HSS.out.2.1, show fieldOk x 115 = nmOk x.nm from rfl]
        all_goals first | rfl | (simp [nmOk, *]; done) | (simp [nmOk, *]; omega)
      · have hn := fun ty => next_lit hlt HF.out.2.1 HC.out (by decide) 102 rfl ty
        rw [← HW.out] at hn
        have f45 : ¬ ((4 : Nat) = 5) := by decide
        have HR : Hid (FoAt w ((w2.setCell ⟨b5, 4, none⟩ (.string x.nm)).setCell ⟨b5, 5, none⟩ (.int .i64 x.ar)).drew w.heap.size b5 it s x (wantStep x y 102) (k + 1)) :=
          Lib.hid ((HN.out.set_ (BoxI.setNm HN.out.1.2 _)).set_ (BoxI.setAr (BoxI.setNm HN.out.1.2 _) _)).drew
        go_wp2_with fail
        go_region
        go_wp2_with fail
        all_goals refine ⟨⟨k + 1, by omega, ?_, by rw [want_snoc HG.out, HSS.out.2.2]; exact HR⟩, by have e1 := HR.out.pos; have e2 := HF.out.pos; omega⟩
        all_goals rw [okF_snoc HG.out, HSS.out.2.1, show fieldOk x 102 = (nmOk x.nm && (decide (1 ≤ x.ar) && decide (x.ar ≤ 8))) from rfl]
        all_goals first | rfl | (simp [nmOk, *]; done) | (simp [nmOk, *]; omega)
      · have hn := fun ty => next_lit hlt HF.out.2.1 HC.out (by decide) 112 rfl ty
        rw [← HW.out] at hn
        have f45 : ¬ ((4 : Nat) = 5) := by decide
        have HR : Hid (FoAt w (((w2.setCell ⟨b5, 4, none⟩ (.string x.nm)).setCell ⟨b5, 5, none⟩ (.int .i64 x.ar)).setCell ⟨b5, 3, none⟩ (.int .i64 x.n)).drew w.heap.size b5 it s x (wantStep x y 112) (k + 1)) :=
          Lib.hid (((HN.out.set_ (BoxI.setNm HN.out.1.2 _)).set_ (BoxI.setAr (BoxI.setNm HN.out.1.2 _) _)).set_ (BoxI.setN (BoxI.setAr (BoxI.setNm HN.out.1.2 _) _) _)).drew
        go_wp2_with fail
        go_region
        go_wp2_with fail
        · refine (validPred_any _ _ _ _).mono ?_
          rintro e w3 ⟨rfl, hb3⟩
          have HR3 := Lib.hid (HR.out.later hb3)
          clear hb3
          go_wp2_with fail
          all_goals refine ⟨⟨k + 1, by omega, ?_, by rw [want_snoc HG.out, HSS.out.2.2]; exact HR3⟩, by have e1 := HR3.out.pos; have e2 := HF.out.pos; omega⟩
          all_goals rw [okF_snoc HG.out, HSS.out.2.1, show fieldOk x 112 = pdOk x.nm x.ar x.n from rfl]
          all_goals first | rfl | (simp [*]; done)
        · refine ⟨⟨k + 1, by omega, ?_, by rw [want_snoc HG.out, HSS.out.2.2]; exact HR⟩, by have e1 := HR.out.pos; have e2 := HF.out.pos; omega⟩
          rw [okF_snoc HG.out, HSS.out.2.1]
          simp [*]
    · have hn := fun ty => Lib.run_next_end_at (P := Tryz.prog) wr it s k ty HF.out.2.1 hlt
      have HE : Hid (fo x = (ok && sameI x y)) := Lib.hid (by
        have hl : (flds x.op).length ≤ k := by unfold flds; rw [HSS.out.1]; simp; omega
        unfold fo
        rw [← HSS.out.2.1, ← HSS.out.2.2, List.take_of_length_le hl])
      obtain ⟨p0, p1, p2, p3, p4, p5⟩ := BoxI.cells HF.out.1.1
      obtain ⟨r0, r1, r2, r3, r4, r5⟩ := BoxI.cells HF.out.1.2
      go_wp2_with fail
      all_goals go_ret
      all_goals refine ⟨ret_bool ?_, HF.out.2.2.1⟩
      all_goals rw [HE.out]
      all_goals first | rfl | (simp [sameI, *]; done)
end
section
open Go.RowKit

def tab2L : List (Int × ByteArray × ByteArray × ByteArray × ByteArray) → List Value
  | [] => []
  | x :: l => .int .i64 x.1 :: .string x.2.1 :: .string x.2.2.1 :: .string x.2.2.2.1 :: .string x.2.2.2.2 :: tab2L l
theorem tab2_at : ∀ {l : List (Int × ByteArray × ByteArray × ByteArray × ByteArray)} {i : Nat} {x}, l[i]? = some x →
    (tab2L l)[i * 5]? = some (.int .i64 x.1) ∧ (tab2L l)[i * 5 + 1]? = some (.string x.2.1) ∧ (tab2L l)[i * 5 + 2]? = some (.string x.2.2.1) ∧ (tab2L l)[i * 5 + 3]? = some (.string x.2.2.2.1) ∧ (tab2L l)[i * 5 + 4]? = some (.string x.2.2.2.2)
  | [], i, x, h => by simp at h
  | y :: l, 0, x, h => by simp at h; subst h; simp [tab2L]
  | y :: l, i + 1, x, h => by
    have := tab2_at (l := l) (i := i) (x := x) (by simpa using h)
    rw [show (i + 1) * 5 = i * 5 + 1 + 1 + 1 + 1 + 1 by omega]
    simpa [tab2L] using this
theorem wpList_val2 {P : Program} {ops : Array Oper} {Q : Exit → Act → World → Prop} {o : Oper} {rest : List Oper} {a : Act} {w : World} (v : Value) (w' : World) (hgd : o.guard = none)
    (h : (execOp a.eval o).run P w = .ok (.value v) w') (k : wpList P ops Q rest (a.put o.dst v) w') : wpList P ops Q (o :: rest) a w :=
  wpList_plain hgd fun _ hK => by unfold Oper.wp; rw [h]; exact hK _ _ k
/-- the rows with their numbers -/
def shape2L : List (Int × ByteArray × ByteArray × ByteArray × ByteArray) := (List.range 25).map fun i : Nat => ((i : Int) + 1, shapeL.getD (i + 1) (⟨#[]⟩, ⟨#[]⟩, ⟨#[]⟩, ⟨#[]⟩))
def tab2A : Array Value := (tab2L shape2L).toArray
theorem shape2_at {op : Int} (h1 : 1 ≤ op) (h2 : op ≤ 25) : shape2L[(op - 1).toNat]? = some (op, sh op) := by
  unfold shape2L sh
  rw [if_pos h1, List.getElem?_map, List.getElem?_range (by omega)]
  simp only [Option.map_some, Option.some.injEq, Prod.mk.injEq]
  exact ⟨by omega, by rw [show (op - 1).toNat + 1 = op.toNat by omega]⟩
set_option maxHeartbeats 1000000 in
set_option maxRecDepth 100000 in
theorem Shapes_any (w : World) : Calls Tryz.prog 87 #[] w fun e w' => e = .returned (.slice (some ⟨w.heap.size, 0, none⟩) 25 25) ∧ (Below w.heap.size w w' ∧ Blk w' w.heap.size 97 tab2A) := by
  go_enter Tryz.func87, Tryz.ntmps87
  go_upto_region 1 with (fail)
  refine wp_region_lit ?_
  refine wpList_val (.agg #[.int .i64 1, .string ⟨#[103, 101, 116, 95, 118, 97, 114]⟩, .string ⟨#[114, 97]⟩, .string ⟨#[97]⟩, .string ⟨#[114]⟩]) rfl (by kernel_rfl) ?_
  refine wpList_val (.agg #[.int .i64 2, .string ⟨#[103, 101, 116, 95, 118, 97, 108]⟩, .string ⟨#[114, 97]⟩, .string ⟨#[114, 97]⟩, .string ⟨#[]⟩]) rfl (by kernel_rfl) ?_
  refine wpList_val (.agg #[.int .i64 3, .string ⟨#[103, 101, 116, 95, 105, 110, 116]⟩, .string ⟨#[97, 110]⟩, .string ⟨#[97]⟩, .string ⟨#[]⟩]) rfl (by kernel_rfl) ?_
  refine wpList_val (.agg #[.int .i64 4, .string ⟨#[103, 101, 116, 95, 97, 116, 111, 109]⟩, .string ⟨#[97, 115]⟩, .string ⟨#[97]⟩, .string ⟨#[]⟩]) rfl (by kernel_rfl) ?_
  refine wpList_val (.agg #[.int .i64 5, .string ⟨#[103, 101, 116, 95, 115, 116, 114, 117, 99, 116]⟩, .string ⟨#[97, 102]⟩, .string ⟨#[97]⟩, .string ⟨#[]⟩]) rfl (by kernel_rfl) ?_
  refine wpList_val (.agg #[.int .i64 6, .string ⟨#[97, 114, 103, 95, 118, 97, 114]⟩, .string ⟨#[114]⟩, .string ⟨#[]⟩, .string ⟨#[114]⟩]) rfl (by kernel_rfl) ?_
  refine wpList_val (.agg #[.int .i64 7, .string ⟨#[97, 114, 103, 95, 118, 97, 108]⟩, .string ⟨#[114]⟩, .string ⟨#[114]⟩, .string ⟨#[]⟩]) rfl (by kernel_rfl) ?_
  refine wpList_val (.agg #[.int .i64 8, .string ⟨#[97, 114, 103, 95, 105, 110, 116]⟩, .string ⟨#[110]⟩, .string ⟨#[]⟩, .string ⟨#[]⟩]) rfl (by kernel_rfl) ?_
  refine wpList_val (.agg #[.int .i64 9, .string ⟨#[97, 114, 103, 95, 97, 116, 111, 109]⟩, .string ⟨#[115]⟩, .string ⟨#[]⟩, .string ⟨#[]⟩]) rfl (by kernel_rfl) ?_
  refine wpList_val (.agg #[.int .i64 10, .string ⟨#[97, 114, 103, 95, 118, 111, 105, 100]⟩, .string ⟨#[118]⟩, .string ⟨#[]⟩, .string ⟨#[]⟩]) rfl (by kernel_rfl) ?_
  refine wpList_val (.agg #[.int .i64 11, .string ⟨#[112, 117, 116, 95, 118, 97, 114]⟩, .string ⟨#[114, 97]⟩, .string ⟨#[]⟩, .string ⟨#[114, 97]⟩]) rfl (by kernel_rfl) ?_
  refine wpList_val (.agg #[.int .i64 12, .string ⟨#[112, 117, 116, 95, 118, 97, 108]⟩, .string ⟨#[114, 97]⟩, .string ⟨#[114]⟩, .string ⟨#[97]⟩]) rfl (by kernel_rfl) ?_
  refine wpList_val (.agg #[.int .i64 13, .string ⟨#[112, 117, 116, 95, 105, 110, 116]⟩, .string ⟨#[97, 110]⟩, .string ⟨#[]⟩, .string ⟨#[97]⟩]) rfl (by kernel_rfl) ?_
  refine wpList_val (.agg #[.int .i64 14, .string ⟨#[112, 117, 116, 95, 97, 116, 111, 109]⟩, .string ⟨#[97, 115]⟩, .string ⟨#[]⟩, .string ⟨#[97]⟩]) rfl (by kernel_rfl) ?_
  refine wpList_val (.agg #[.int .i64 15, .string ⟨#[112, 117, 116, 95, 115, 116, 114, 117, 99, 116]⟩, .string ⟨#[114, 102]⟩, .string ⟨#[]⟩, .string ⟨#[114]⟩]) rfl (by kernel_rfl) ?_
  refine wpList_val (.agg #[.int .i64 16, .string ⟨#[97, 108, 108, 111, 99, 97, 116, 101]⟩, .string ⟨#[99]⟩, .string ⟨#[]⟩, .string ⟨#[]⟩]) rfl (by kernel_rfl) ?_
  refine wpList_val (.agg #[.int .i64 17, .string ⟨#[116, 114, 105, 109]⟩, .string ⟨#[99]⟩, .string ⟨#[]⟩, .string ⟨#[]⟩]) rfl (by kernel_rfl) ?_
  refine wpList_val (.agg #[.int .i64 18, .string ⟨#[102, 114, 101, 101]⟩, .string ⟨#[]⟩, .string ⟨#[]⟩, .string ⟨#[]⟩]) rfl (by kernel_rfl) ?_
  refine wpList_val (.agg #[.int .i64 19, .string ⟨#[99, 97, 108, 108]⟩, .string ⟨#[112]⟩, .string ⟨#[112]⟩, .string ⟨#[]⟩]) rfl (by kernel_rfl) ?_
  refine wpList_val (.agg #[.int .i64 20, .string ⟨#[101, 120, 101, 99, 117, 116, 101]⟩, .string ⟨#[112]⟩, .string ⟨#[112]⟩, .string ⟨#[]⟩]) rfl (by kernel_rfl) ?_
  refine wpList_val (.agg #[.int .i64 21, .string ⟨#[112, 114, 111, 99, 101, 101, 100]⟩, .string ⟨#[]⟩, .string ⟨#[]⟩, .string ⟨#[]⟩]) rfl (by kernel_rfl) ?_
  refine wpList_val (.agg #[.int .i64 22, .string ⟨#[108, 101, 118, 101, 108]⟩, .string ⟨#[114]⟩, .string ⟨#[]⟩, .string ⟨#[114]⟩]) rfl (by kernel_rfl) ?_
  refine wpList_val (.agg #[.int .i64 23, .string ⟨#[109, 97, 114, 107]⟩, .string ⟨#[114]⟩, .string ⟨#[]⟩, .string ⟨#[114]⟩]) rfl (by kernel_rfl) ?_
  refine wpList_val (.agg #[.int .i64 24, .string ⟨#[99, 117, 116]⟩, .string ⟨#[114]⟩, .string ⟨#[114]⟩, .string ⟨#[]⟩]) rfl (by kernel_rfl) ?_
  refine wpList_val (.agg #[.int .i64 25, .string ⟨#[102, 97, 105, 108]⟩, .string ⟨#[]⟩, .string ⟨#[]⟩, .string ⟨#[]⟩]) rfl (by kernel_rfl) ?_
  refine wpList_val2 (.slice (some ⟨w.heap.size, 0, none⟩) 25 25) (w.alloc (.cells tab2A 97)) rfl (by kernel_rfl) ?_
  refine wpList_val (.slice (some ⟨w.heap.size, 0, none⟩) 25 25) rfl (by kernel_rfl) ?_
  rename_i K hK
  refine hK _ _ ?_
  refine wp_ret ?_
  refine bodyPost_ret (v := .slice (some ⟨w.heap.size, 0, none⟩) 25 25) ?_ ?_ ?_
  rotate_left
  · rfl
  · exact ⟨rfl, bAlloc _ _, Blk.new _ _ _⟩
  exact (results_tmp (t := 0) (by kernel_rfl) _ _ _).trans (by kernel_rfl)
theorem zv72 (w : World) : (zeroValue 97).run Tryz.prog w = .ok (.agg #[.int .i64 0, .string ⟨#[]⟩, .string ⟨#[]⟩, .string ⟨#[]⟩, .string ⟨#[]⟩]) w := by kernel_rfl
def opN (op : Int) : Int := if okOp op then op else 0
@[reducible] def sh2V (op : Int) : Value := .agg #[.int .i64 (opN op), .string (sh op).1, .string (sh op).2.1, .string (sh op).2.2.1, .string (sh op).2.2.2]
set_option maxHeartbeats 400000 in
theorem shape_any (op : Int) (w : World) : Calls Tryz.prog 54 #[.int .i64 op] w fun e w' => e = .returned (.tuple #[sh2V op, .bool (okOp op)]) ∧ Below w.heap.size w w' := by
  cases ho : okOp op with
  | false =>
    have HS := Lib.hid (And.intro (sh_out ho) ho)
    have hc : op < 1 ∨ 25 < op := by simp [okOp] at ho; omega
    clear ho
    go_enter Tryz.func54, Tryz.ntmps54
    rcases hc with hc | hc <;> go_wp2_with fail
    all_goals
      refine bodyPost_ret (v := .tuple #[.agg #[.int .i64 0, .string ⟨#[]⟩, .string ⟨#[]⟩, .string ⟨#[]⟩, .string ⟨#[]⟩], .bool false]) (by simp [results, Tryz.results54, go_sem]) rfl ⟨?_, ?_⟩
      · unfold sh2V opN; rw [HS.out.1, HS.out.2]; rfl
      · exact bAlloc _ _
  | true =>
    have hc : 1 ≤ op ∧ op ≤ 25 := by simpa [okOp] using ho
    have HO := Lib.hid ho
    obtain ⟨h1, h2⟩ := hc
    have hd : decide (op < 1) = false := by simp; omega
    have hd2 : decide (25 < op) = false := by simp; omega
    clear ho
    go_enter Tryz.func54, Tryz.ntmps54
    go_wp2_with fail
    refine (Shapes_any _).mono ?_
    rintro e w1 ⟨rfl, hb, hk⟩
    have hz : w.heap.size < w1.heap.size := by have := hb.size; simp at this; omega
    obtain ⟨q0, q1⟩ := bcell hb
    have HB := Lib.hid hb
    obtain ⟨t0, t1, t2, t3, t4⟩ := tab2_at (shape2_at h1 h2)
    rw [show (op - 1).toNat = op.toNat - 1 by omega] at t0 t1 t2 t3 t4
    have ec : ∀ j, w1.cell? ⟨w.heap.size + 1, j, none⟩ = (tab2L shape2L)[j]? := fun j => (by
      have := hk.cell j
      rw [World.size_alloc] at this
      rw [this]; show tab2A[j]? = _; unfold tab2A; simp)
    have c0 := (ec _).trans t0
    have c1 := (ec _).trans t1
    have c2 := (ec _).trans t2
    have c3 := (ec _).trans t3
    have c4 := (ec _).trans t4
    clear ec hk hb t0 t1 t2 t3 t4
    go_wp2_with fail
    refine bodyPost_ret (v := .tuple #[.agg #[.int .i64 op, .string (sh op).1, .string (sh op).2.1, .string (sh op).2.2.1, .string (sh op).2.2.2], .bool true]) (by simp [results, Tryz.results54, go_sem, q0]) rfl ⟨?_, ?_⟩
    · unfold sh2V opN; rw [HO.out]; rfl
    · exact ((((((bStart HB.out).setCell (Nat.le_refl _) _).setCell (Nat.le_refl _) _).setCell (Nat.le_refl _) _).setCell (Nat.le_refl _) _).setCell (Nat.le_refl _) _)
end
end Go.Proofs.YtbipeakinmbdiaaGreatDoor
