/-
  Walks: the reference's Formed. Walks: slices.Contains at integers; the row of integers that a call owns.
-/
import Derived.Test.YtbipeakinmbdiaaGreatDoorKc
import Derived.Outline
namespace Go.Proofs.YtbipeakinmbdiaaGreatDoor
section
open Go.RowKit

/-- what is left of an instruction without a field -/
def restStep (y : In) (c : UInt8) : In :=
  if c = 114 then { y with r := 0 } else if c = 97 then { y with a := 0 } else if c = 110 ∨ c = 118 ∨ c = 99 then { y with n := 0 }
  else if c = 115 then { y with nm := ⟨#[]⟩ } else if c = 102 then { y with nm := ⟨#[]⟩, ar := 0 } else if c = 112 then { y with nm := ⟨#[]⟩, ar := 0, n := 0 } else y
def restOf (x : In) (l : List UInt8) : In := l.foldl restStep { x with op := 0 }
def zeroI : In := ⟨0, 0, 0, 0, ⟨#[]⟩, 0⟩
/-- each field is on one side -/
def Parts (x y z : In) : Prop :=
  (y.op = x.op ∧ z.op = 0) ∧ (y.r = x.r ∧ z.r = 0 ∨ y.r = 0 ∧ z.r = x.r) ∧ (y.a = x.a ∧ z.a = 0 ∨ y.a = 0 ∧ z.a = x.a) ∧ (y.n = x.n ∧ z.n = 0 ∨ y.n = 0 ∧ z.n = x.n) ∧
  (y.nm = x.nm ∧ z.nm = ⟨#[]⟩ ∨ y.nm = ⟨#[]⟩ ∧ z.nm = x.nm) ∧ (y.ar = x.ar ∧ z.ar = 0 ∨ y.ar = 0 ∧ z.ar = x.ar)
theorem Parts.step {x y z : In} (h : Parts x y z) (c : UInt8) : Parts x (wantStep x y c) (restStep z c) := by
  obtain ⟨h0, h1, h2, h3, h4, h5⟩ := h
  unfold wantStep restStep
  by_cases c1 : c = 114
  · rw [if_pos c1, if_pos c1]; exact ⟨h0, .inl ⟨rfl, rfl⟩, h2, h3, h4, h5⟩
  rw [if_neg c1, if_neg c1]
  by_cases c2 : c = 97
  · rw [if_pos c2, if_pos c2]; exact ⟨h0, h1, .inl ⟨rfl, rfl⟩, h3, h4, h5⟩
  rw [if_neg c2, if_neg c2]
  by_cases c3 : c = 110 ∨ c = 118 ∨ c = 99
  · rw [if_pos c3, if_pos c3]; exact ⟨h0, h1, h2, .inl ⟨rfl, rfl⟩, h4, h5⟩
  rw [if_neg c3, if_neg c3]
  by_cases c4 : c = 115
  · rw [if_pos c4, if_pos c4]; exact ⟨h0, h1, h2, h3, .inl ⟨rfl, rfl⟩, h5⟩
  rw [if_neg c4, if_neg c4]
  by_cases c5 : c = 102
  · rw [if_pos c5, if_pos c5]; exact ⟨h0, h1, h2, h3, .inl ⟨rfl, rfl⟩, .inl ⟨rfl, rfl⟩⟩
  rw [if_neg c5, if_neg c5]
  by_cases c6 : c = 112
  · rw [if_pos c6, if_pos c6]; exact ⟨h0, h1, h2, .inl ⟨rfl, rfl⟩, .inl ⟨rfl, rfl⟩, .inl ⟨rfl, rfl⟩⟩
  rw [if_neg c6, if_neg c6]
  exact ⟨h0, h1, h2, h3, h4, h5⟩
theorem parts_fold {x : In} : ∀ (l : List UInt8) {y z : In}, Parts x y z → Parts x (l.foldl (wantStep x) y) (l.foldl restStep z)
  | [], _, _, h => h
  | c :: l, _, _, h => parts_fold l (h.step c)
theorem Parts.same {x y z : In} (h : Parts x y z) : sameI z zeroI = sameI x y := by
  obtain ⟨⟨a0, b0⟩, h1, h2, h3, h4, h5⟩ := h
  unfold sameI zeroI
  have e1 : (z.r == 0) = (x.r == y.r) := by rcases h1 with ⟨a, b⟩ | ⟨a, b⟩ <;> rw [a, b] <;> simp
  have e2 : (z.a == 0) = (x.a == y.a) := by rcases h2 with ⟨a, b⟩ | ⟨a, b⟩ <;> rw [a, b] <;> simp
  have e3 : (z.n == 0) = (x.n == y.n) := by rcases h3 with ⟨a, b⟩ | ⟨a, b⟩ <;> rw [a, b] <;> simp
  have e4 : (z.nm.toList == (⟨#[]⟩ : ByteArray).toList) = (x.nm.toList == y.nm.toList) := by rcases h4 with ⟨a, b⟩ | ⟨a, b⟩ <;> rw [a, b] <;> simp
  have e5 : (z.ar == 0) = (x.ar == y.ar) := by rcases h5 with ⟨a, b⟩ | ⟨a, b⟩ <;> rw [a, b] <;> simp
  show (z.op == 0 && (z.r == 0 && (z.a == 0 && (z.n == 0 && (z.nm.toList == (⟨#[]⟩ : ByteArray).toList && z.ar == 0))))) = _
  rw [e1, e2, e3, e4, e5, a0, b0]
  simp
theorem rest_same (x : In) (l : List UInt8) : sameI (restOf x l) zeroI = sameI x (wantOf x l) :=
  (parts_fold (x := x) l (y := ⟨x.op, 0, 0, 0, ⟨#[]⟩, 0⟩) (z := { x with op := 0 }) ⟨⟨rfl, rfl⟩, .inr ⟨rfl, rfl⟩, .inr ⟨rfl, rfl⟩, .inr ⟨rfl, rfl⟩, .inr ⟨rfl, rfl⟩, .inr ⟨rfl, rfl⟩⟩).same
theorem rest_snoc {x : In} {l : List UInt8} {k : Nat} {c : UInt8} (hc : l[k]? = some c) : restOf x (l.take (k + 1)) = restStep (restOf x (l.take k)) c := by
  unfold restOf; rw [List.take_add_one, hc]; simp

/-- where the walk of Formed stands -/
def ReAt (w0 wr : World) (b1 b3 b5 : Nat) (s : ByteArray) (x y : In) : Prop :=
  (BoxI wr b1 x ∧ BoxI wr b5 y) ∧ (wr.cell? ⟨b3, 2, none⟩ = some (.string s) ∧ b3 < wr.heap.size) ∧ Below w0.heap.size w0 wr ∧ (b1 < b3 ∧ b3 < b5 ∧ w0.heap.size ≤ b1)
theorem ReAt.set_ {w0 wr : World} {b1 b3 b5 : Nat} {s : ByteArray} {x y y' : In} (h : ReAt w0 wr b1 b3 b5 s x y) {i : Nat} {v : Value}
    (h2 : BoxI (wr.setCell ⟨b5, i, none⟩ v) b5 y') : ReAt w0 (wr.setCell ⟨b5, i, none⟩ v) b1 b3 b5 s x y' := by
  obtain ⟨⟨h1, _⟩, ⟨h3, h3'⟩, h4, h5, h6, h7⟩ := h
  refine ⟨⟨h1.far (by show b1 ≠ b5; omega) _, h2⟩, ⟨?_, by simpa using h3'⟩, h4.setCell (by show w0.heap.size ≤ b5; omega) _, h5, h6, h7⟩
  have e := heap_setCell_other wr ⟨b5, i, none⟩ b3 v (by show b3 ≠ b5; omega)
  simp only [World.cell?, e] at h3 ⊢; exact h3
theorem ReAt.later {w0 wr w2 : World} {b1 b3 b5 : Nat} {s : ByteArray} {x y : In} (h : ReAt w0 wr b1 b3 b5 s x y) (hb : Below wr.heap.size wr w2) : ReAt w0 w2 b1 b3 b5 s x y := by
  obtain ⟨⟨h1, h2⟩, ⟨h3, h3'⟩, h4, h5⟩ := h
  exact ⟨⟨h1.next hb, h2.next hb⟩, ⟨(hb.cell (p := ⟨b3, 2, none⟩) h3').trans h3, Nat.lt_of_lt_of_le h3' hb.size⟩, bNext h4 hb, h5⟩
theorem ReAt.start {w w1 : World} {x y : In} (hb : Below w.heap.size w w1) (hx : BoxI w1 w.heap.size x) (hz : w.heap.size < w1.heap.size) (cs : Array Value) (s : ByteArray) (hs : cs[2]? = some (.string s)) :
    ReAt w ((w1.alloc (.cells cs 97)).alloc (.cells #[.int .i64 y.op, .int .i64 y.r, .int .i64 y.a, .int .i64 y.n, .string y.nm, .int .i64 y.ar] 34)) w.heap.size w1.heap.size (w1.heap.size + 1) s x y := by
  have e1 : (w1.alloc (.cells cs 97)).heap.size = w1.heap.size + 1 := by simp
  refine ⟨⟨(hx.alloc _).alloc _, ?_⟩, ⟨(((Blk.new w1 97 cs).alloc _).cell 2).trans hs, by simp; omega⟩, (hb.alloc (by omega) _).alloc (by omega) _, by omega, by omega, Nat.le_refl _⟩
  have := BoxI.new (w1.alloc (.cells cs 97)) y
  rw [e1] at this
  exact this
theorem flds_size (op : Int) : (sh op).2.1.size ≤ 2 := by
  cases h : okOp op with
  | false => rw [sh_out h]; decide
  | true => rcases op_cases h with rfl | rfl | rfl | rfl | rfl | rfl | rfl | rfl | rfl | rfl | rfl | rfl | rfl | rfl | rfl | rfl | rfl | rfl | rfl | rfl | rfl | rfl | rfl | rfl | rfl <;> decide
theorem BoxI.setOp {w : World} {b : Nat} {y : In} (h : BoxI w b y) (v : Int) : BoxI (w.setCell ⟨b, 0, none⟩ (.int .i64 v)) b { y with op := v } := Blk.set_ h 0 _

set_option maxRecDepth 100000 in
set_option maxHeartbeats 1000000 in
theorem Formed_any (x : In) (w : World) : Calls Tryz.prog 88 #[x.v] w fun e w' => e = .returned (.bool (fo x)) ∧ Below w.heap.size w w' := by
  go_enter Tryz.func88, Tryz.ntmps88
  go_wp2_with fail
  refine (shape_any _ _).mono ?_
  rintro e w1 ⟨rfl, hb⟩
  have hx1 := (BoxI.new w x).next hb
  have HB := Lib.hid (bStart hb)
  have hz : w.heap.size < w1.heap.size := by have := hb.size; simp at this; omega
  clear hb
  have HX := Lib.hid hx1
  obtain ⟨q0, q1, q2, q3, q4, q5⟩ := BoxI.cells hx1
  clear hx1
  cases ho : okOp x.op with
  | false =>
    have HO := Lib.hid ho
    go_wp2_with fail
    go_ret
    exact ⟨ret_bool (by unfold fo; rw [HO.out]; rfl), HB.out.alloc (by omega) _⟩
  | true =>
    have HO := Lib.hid ho
    go_wp2_with fail
    have HST : Hid (ReAt w ((w1.alloc (.cells #[.int .i64 (opN x.op), .string (sh x.op).1, .string (sh x.op).2.1, .string (sh x.op).2.2.1, .string (sh x.op).2.2.2] 97)).alloc (.cells #[.int .i64 0, .int .i64 x.r, .int .i64 x.a, .int .i64 x.n, .string x.nm, .int .i64 x.ar] 34)) w.heap.size w1.heap.size (w1.heap.size + 1) (sh x.op).2.1 x { x with op := 0 }) := Lib.hid (ReAt.start (y := { x with op := 0 }) HB.out HX.out hz _ _ rfl)
    have HZ := Lib.hid hz
    clear hz q0 q1 q2 q3 q4 q5 ho
    go_loopw [4, 6] (fun ok i wr => ∃ k : Nat, i = .int .i64 k ∧ k ≤ (sh x.op).2.1.size ∧ ok = .bool (okOp x.op && ((flds x.op).take k).all (fieldOk x)) ∧
        Hid (ReAt w wr w.heap.size w1.heap.size (w1.heap.size + 1) (sh x.op).2.1 x (restOf x ((flds x.op).take k)))) (fun _ i _ => (sh x.op).2.1.size - (intOf i).toNat)
    case atStart => exact ⟨0, rfl, Nat.zero_le _, by simp [HO.out], HST⟩
    case round =>
      obtain ⟨k, rfl, hk, rfl, HF⟩ := hrel
      have hsz := flds_size x.op
      generalize hb3 : w1.heap.size = b3 at HF ⊢
      generalize hb5 : b3 + 1 = b5 at HF ⊢
      have HI := Lib.hid (And.intro hb3 hb5)
      clear hb3 hb5
      generalize hss : (sh x.op).2.1 = s at HF hk hsz ⊢
      generalize hok : (okOp x.op && ((flds x.op).take k).all (fieldOk x)) = ok
      generalize hy : restOf x ((flds x.op).take k) = y at HF
      have HSS := Lib.hid (And.intro hss (And.intro hok hy))
      clear hss hok hy
      obtain ⟨p0, p1, p2, p3, p4, p5⟩ := BoxI.cells HF.out.1.1
      obtain ⟨r0, r1, r2, r3, r4, r5⟩ := BoxI.cells HF.out.1.2
      obtain ⟨f0, f1, f2, f3, f4, f5⟩ := BoxI.open_ HF.out.1.2
      have hs2 := HF.out.2.1.1
      have hne : ¬ w.heap.size = b5 := by have := HF.out.2.2.2; omega
      have hne2 : ¬ b5 = w.heap.size := by have := HF.out.2.2.2; omega
      have hne3 : ¬ b3 = b5 := by have := HF.out.2.2.2; omega
      by_cases hlt : k < s.size
      · have hget : (flds x.op)[k]? = some (s[k]'hlt) := by
          unfold flds; rw [HSS.out.1]; simp [hlt]; rfl
        have hmem := flds_mem x.op _ (List.mem_of_getElem? hget)
        have HG := Lib.hid hget
        clear hget
        rcases hmem with hc | hc | hc | hc | hc | hc | hc | hc
        · have hn : (s[k]'hlt).toNat = 114 := by rw [hc]; rfl
          have HC := Lib.hid hc
          clear hc
          have HR : Hid (ReAt w (wr.setCell ⟨b5, 1, none⟩ (.int .i64 0)) w.heap.size b3 b5 s x (restStep y 114)) := Lib.hid (ReAt.set_ (HF.out) (BoxI.setR (HF.out.1.2) _))
          go_wp2_with (refine (register_any _ _).mono ?_; rintro e w' ⟨rfl, rfl⟩)
          all_goals refine ⟨⟨k + 1, by go_num, by omega, ?_, by rw [rest_snoc HG.out, HSS.out.2.2, HC.out]; exact HR⟩, by simp [intOf]; omega⟩
          all_goals rw [okF_snoc HG.out, HSS.out.2.1, HC.out, show fieldOk x 114 = rOk x.r from rfl]
          all_goals first | rfl | (simp [*]; done)
        · have hn : (s[k]'hlt).toNat = 97 := by rw [hc]; rfl
          have HC := Lib.hid hc
          clear hc
          have HR : Hid (ReAt w (wr.setCell ⟨b5, 2, none⟩ (.int .i64 0)) w.heap.size b3 b5 s x (restStep y 97)) := Lib.hid (ReAt.set_ (HF.out) (BoxI.setA (HF.out.1.2) _))
          go_wp2_with (refine (between_any _ _ _ _).mono ?_; rintro e w' ⟨rfl, rfl⟩)
          all_goals refine ⟨⟨k + 1, by go_num, by omega, ?_, by rw [rest_snoc HG.out, HSS.out.2.2, HC.out]; exact HR⟩, by simp [intOf]; omega⟩
          all_goals rw [okF_snoc HG.out, HSS.out.2.1, HC.out, show fieldOk x 97 = (decide (1 ≤ x.a) && decide (x.a ≤ 4096)) from rfl]
          all_goals first | rfl | (simp [*]; done)
        · have hn : (s[k]'hlt).toNat = 110 := by rw [hc]; rfl
          have HC := Lib.hid hc
          clear hc
          have HR : Hid (ReAt w (wr.setCell ⟨b5, 3, none⟩ (.int .i64 0)) w.heap.size b3 b5 s x (restStep y 110)) := Lib.hid (ReAt.set_ (HF.out) (BoxI.setN (HF.out.1.2) _))
          go_wp2_with fail
          all_goals refine ⟨⟨k + 1, by go_num, by omega, ?_, by rw [rest_snoc HG.out, HSS.out.2.2, HC.out]; exact HR⟩, by simp [intOf]; omega⟩
          all_goals rw [okF_snoc HG.out, HSS.out.2.1, HC.out, show fieldOk x 110 = true from rfl]
          all_goals first | rfl | (simp [*]; done)
        · have hn : (s[k]'hlt).toNat = 118 := by rw [hc]; rfl
          have HC := Lib.hid hc
          clear hc
          have HR : Hid (ReAt w (wr.setCell ⟨b5, 3, none⟩ (.int .i64 0)) w.heap.size b3 b5 s x (restStep y 118)) := Lib.hid (ReAt.set_ (HF.out) (BoxI.setN (HF.out.1.2) _))
          go_wp2_with (refine (between_any _ _ _ _).mono ?_; rintro e w' ⟨rfl, rfl⟩)
          all_goals refine ⟨⟨k + 1, by go_num, by omega, ?_, by rw [rest_snoc HG.out, HSS.out.2.2, HC.out]; exact HR⟩, by simp [intOf]; omega⟩
          all_goals rw [okF_snoc HG.out, HSS.out.2.1, HC.out, show fieldOk x 118 = (decide (1 ≤ x.n) && decide (x.n ≤ 8)) from rfl]
          all_goals first | rfl | (simp [*]; done)
        · have hn : (s[k]'hlt).toNat = 99 := by rw [hc]; rfl
          have HC := Lib.hid hc
          clear hc
          have HR : Hid (ReAt w (wr.setCell ⟨b5, 3, none⟩ (.int .i64 0)) w.heap.size b3 b5 s x (restStep y 99)) := Lib.hid (ReAt.set_ (HF.out) (BoxI.setN (HF.out.1.2) _))
          go_wp2_with (refine (between_any _ _ _ _).mono ?_; rintro e w' ⟨rfl, rfl⟩)
          all_goals refine ⟨⟨k + 1, by go_num, by omega, ?_, by rw [rest_snoc HG.out, HSS.out.2.2, HC.out]; exact HR⟩, by simp [intOf]; omega⟩
          all_goals rw [okF_snoc HG.out, HSS.out.2.1, HC.out, show fieldOk x 99 = (decide (0 ≤ x.n) && decide (x.n ≤ 4096)) from rfl]
          all_goals first | rfl | (simp [*]; done)
        · have hn : (s[k]'hlt).toNat = 115 := by rw [hc]; rfl
          have HC := Lib.hid hc
          clear hc
          have HR : Hid (ReAt w (wr.setCell ⟨b5, 4, none⟩ (.string ⟨#[]⟩)) w.heap.size b3 b5 s x (restStep y 115)) := Lib.hid (ReAt.set_ (HF.out) (BoxI.setNm (HF.out.1.2) _))
          go_wp2_with (refine (named_any _ _).mono ?_; rintro e w' ⟨rfl, rfl⟩)
          all_goals refine ⟨⟨k + 1, by go_num, by omega, ?_, by rw [rest_snoc HG.out, HSS.out.2.2, HC.out]; exact HR⟩, by simp [intOf]; omega⟩
          all_goals rw [okF_snoc HG.out, HSS.out.2.1, HC.out, show fieldOk x 115 = nmOk x.nm from rfl]
          all_goals first | rfl | (simp [*]; done)
        · have hn : (s[k]'hlt).toNat = 102 := by rw [hc]; rfl
          have HC := Lib.hid hc
          clear hc
          have HR : Hid (ReAt w ((wr.setCell ⟨b5, 4, none⟩ (.string ⟨#[]⟩)).setCell ⟨b5, 5, none⟩ (.int .i64 0)) w.heap.size b3 b5 s x (restStep y 102)) := Lib.hid (ReAt.set_ ((ReAt.set_ (HF.out) (BoxI.setNm (HF.out.1.2) _))) (BoxI.setAr (BoxI.setNm (HF.out.1.2) _) _))
          go_wp2_with (first | (go_at_call 123; refine (named_any _ _).mono ?_; rintro e w' ⟨rfl, rfl⟩) | (go_at_call 96; refine (between_any _ _ _ _).mono ?_; rintro e w' ⟨rfl, rfl⟩))
          all_goals refine ⟨⟨k + 1, by go_num, by omega, ?_, by rw [rest_snoc HG.out, HSS.out.2.2, HC.out]; exact HR⟩, by simp [intOf]; omega⟩
          all_goals rw [okF_snoc HG.out, HSS.out.2.1, HC.out, show fieldOk x 102 = (nmOk x.nm && (decide (1 ≤ x.ar) && decide (x.ar ≤ 8))) from rfl]
          all_goals first | rfl | (simp [*]; done)
        · have hn : (s[k]'hlt).toNat = 112 := by rw [hc]; rfl
          have HC := Lib.hid hc
          clear hc
          have HR : Hid (ReAt w (((wr.setCell ⟨b5, 4, none⟩ (.string ⟨#[]⟩)).setCell ⟨b5, 5, none⟩ (.int .i64 0)).setCell ⟨b5, 3, none⟩ (.int .i64 0)) w.heap.size b3 b5 s x (restStep y 112)) := Lib.hid (ReAt.set_ ((ReAt.set_ ((ReAt.set_ (HF.out) (BoxI.setNm (HF.out.1.2) _))) (BoxI.setAr (BoxI.setNm (HF.out.1.2) _) _))) (BoxI.setN (BoxI.setAr (BoxI.setNm (HF.out.1.2) _) _) _))
          go_wp2_with fail
          · refine (ValidPred_any _ _ _ _).mono ?_
            rintro e w3 ⟨rfl, hb3⟩
            have HF3 := Lib.hid (HF.out.later hb3)
            clear hb3 HR
            obtain ⟨r0, r1, r2, r3, r4, r5⟩ := BoxI.cells HF3.out.1.2
            obtain ⟨f0, f1, f2, f3, f4, f5⟩ := BoxI.open_ HF3.out.1.2
            have hs2 := HF3.out.2.1.1
            have HR : Hid (ReAt w (((w3.setCell ⟨b5, 4, none⟩ (.string ⟨#[]⟩)).setCell ⟨b5, 5, none⟩ (.int .i64 0)).setCell ⟨b5, 3, none⟩ (.int .i64 0)) w.heap.size b3 b5 s x (restStep y 112)) := Lib.hid (ReAt.set_ ((ReAt.set_ ((ReAt.set_ (HF3.out) (BoxI.setNm (HF3.out.1.2) _))) (BoxI.setAr (BoxI.setNm (HF3.out.1.2) _) _))) (BoxI.setN (BoxI.setAr (BoxI.setNm (HF3.out.1.2) _) _) _))
            go_wp2_with fail
            all_goals refine ⟨⟨k + 1, by go_num, by omega, ?_, by rw [rest_snoc HG.out, HSS.out.2.2, HC.out]; exact HR⟩, by simp [intOf]; omega⟩
            all_goals rw [okF_snoc HG.out, HSS.out.2.1, HC.out, show fieldOk x 112 = pdOk x.nm x.ar x.n from rfl]
            all_goals first | rfl | (simp [*]; done)
          · refine ⟨⟨k + 1, by go_num, by omega, ?_, by rw [rest_snoc HG.out, HSS.out.2.2, HC.out]; exact HR⟩, by simp [intOf]; omega⟩
            all_goals rw [okF_snoc HG.out, HSS.out.2.1, HC.out, show fieldOk x 112 = pdOk x.nm x.ar x.n from rfl]
            all_goals first | rfl | (simp [*]; done)
      · have HE : Hid (fo x = (ok && sameI y zeroI)) := Lib.hid (by
          have hl : (flds x.op).length ≤ k := by unfold flds; rw [HSS.out.1]; simp; omega
          unfold fo
          rw [← rest_same, ← HSS.out.2.1, ← HSS.out.2.2, List.take_of_length_le hl])
        go_wp2_with fail
        all_goals go_ret
        all_goals refine ⟨ret_bool ?_, HF.out.2.2.1⟩
        all_goals rw [HE.out]
        all_goals first | rfl | (simp [sameI, zeroI, *]; done)
end
section
open Go.RowKit

theorem info_parts {t : TypeId} {z : Value} {s b : Nat} (h : (Tryz.prog.info? t).map (fun i => (i.zero, i.size, i.bytes)) = some (some z, s, b)) :
    ∃ i, Tryz.prog.info? t = some i ∧ i.zero = some z ∧ i.size = s ∧ i.bytes = b := by
  cases hi : Tryz.prog.info? t with
  | none => rw [hi] at h; simp at h
  | some i =>
    rw [hi] at h
    simp only [Option.map_some, Option.some.injEq, Prod.mk.injEq] at h
    exact ⟨i, rfl, h.1, h.2.1, h.2.2⟩
theorem info3 : (Tryz.prog.info? 3).map (fun i => (i.zero, i.size, i.bytes)) = some (some (.int .i64 0), 1, 8) := by kernel_rfl
theorem info23 : (Tryz.prog.info? 34).map (fun i => (i.zero, i.size, i.bytes)) = some (some (.agg #[.int .i64 0, .int .i64 0, .int .i64 0, .int .i64 0, .string ⟨#[]⟩, .int .i64 0]), 6, 56) := by kernel_rfl

/-- the index of a number in a list -/
def idxOf (l : List Int) (x : Int) : Int := match l.findIdx? (· == x) with | some k => (k : Int) | none => -1
theorem idxOf_yes {l : List Int} {x : Int} {k : Nat} (hk : l[k]? = some x) (hp : ∀ (j : Nat) z, j < k → l[j]? = some z → z ≠ x) : idxOf l x = k := by
  unfold idxOf
  obtain ⟨hlt, hx⟩ := List.getElem?_eq_some_iff.1 hk
  rw [List.findIdx?_eq_some_iff_getElem.2 ⟨hlt, by rw [hx]; simp, fun j hj => by simpa using hp j _ hj (List.getElem?_eq_getElem (by omega))⟩]
theorem idxOf_no {l : List Int} {x : Int} (hp : ∀ (j : Nat) z, l[j]? = some z → z ≠ x) : idxOf l x = -1 := by
  unfold idxOf
  rw [List.findIdx?_eq_none_iff.2 fun y hy => by obtain ⟨j, hj⟩ := List.mem_iff_getElem?.1 hy; simpa using hp j _ hj]
theorem idxOf_has (l : List Int) (x : Int) : decide (0 ≤ idxOf l x) = l.contains x := by
  unfold idxOf
  cases h : l.findIdx? (· == x) with
  | none =>
    have := List.findIdx?_eq_none_iff.1 h
    have h2 : l.contains x = false := by
      rw [Bool.eq_false_iff]; intro hc
      have := this x (by simpa using hc)
      simp at this
    rw [h2]; rfl
  | some k =>
    obtain ⟨hlt, he, _⟩ := List.findIdx?_eq_some_iff_getElem.1 h
    have h2 : l.contains x = true := by
      have : l[k] = x := by simpa using he
      rw [← this]; simp
    rw [h2]; simp

set_option maxHeartbeats 400000 in
theorem index_any (A : Option Addr) (n c : Nat) (l : List Int) (x : Int) (w : World) (ha : IntsAt w w.heap.size A n l) :
    Calls Tryz.prog 121 #[.slice A n c, .int .i64 x] w fun e w' => e = .returned (.int .i64 (idxOf l x)) ∧ w = w' := by
  have hn := ha.1.2
  have HA := Lib.hid ha
  clear ha
  go_enter Tryz.func121, Tryz.ntmps121
  go_wp2
  go_loop [8] (fun i => ∃ k : Nat, k ≤ n ∧ i = .int .i64 k ∧ Hid (∀ (j : Nat) z, j < k → l[j]? = some z → z ≠ x)) (fun i => n - (intOf i).toNat)
  case atStart => exact ⟨0, by omega, rfl, Lib.hid fun j z h => absurd h (by omega)⟩
  case round =>
    obtain ⟨k, hk, rfl, HP⟩ := hrel
    by_cases hlt : k < n
    · obtain ⟨b, off, z, rfl, hb, hx, hc⟩ := HA.out.at hlt
      have HX := Lib.hid hx
      clear hx
      by_cases hzx : x = z
      · subst hzx
        go_wp2
        go_ret
        exact ⟨ret_int (idxOf_yes HX.out HP.out).symm, rfl⟩
      · have hb : (x == z) = false := by simpa using hzx
        have HZ := Lib.hid hzx
        clear hzx
        go_wp2
        exact ⟨⟨k + 1, by omega, by go_num, Lib.hid fun j y hj hy => by
          rcases Nat.lt_or_ge j k with h | h
          · exact HP.out j y h hy
          · rw [show j = k by omega, HX.out] at hy
            injection hy with hy
            rw [← hy]; exact fun e => HZ.out e.symm⟩, by simp [intOf]; omega⟩
    · have HQ := Lib.hid (idxOf_no (l := l) (x := x) fun j z hz => HP.out j z (by have := (List.getElem?_eq_some_iff.1 hz).1; have := HA.out.1.1; omega) hz)
      go_wp2
      go_ret
      exact ⟨ret_int HQ.out.symm, rfl⟩
theorem contains_any (A : Option Addr) (n c : Nat) (l : List Int) (x : Int) (w : World) (ha : IntsAt w w.heap.size A n l) :
    Calls Tryz.prog 86 #[.slice A n c, .int .i64 x] w fun e w' => e = .returned (.bool (l.contains x)) ∧ w = w' := by
  have HQ := Lib.hid (idxOf_has l x)
  go_enter Tryz.func86, Tryz.ntmps86
  go_wp2_with fail
  refine (index_any _ _ _ _ _ _ ha).mono ?_
  rintro e w' ⟨rfl, rfl⟩
  go_wp2_with fail
  go_ret
  exact ⟨ret_bool HQ.out, rfl⟩
end
end Go.Proofs.YtbipeakinmbdiaaGreatDoor
