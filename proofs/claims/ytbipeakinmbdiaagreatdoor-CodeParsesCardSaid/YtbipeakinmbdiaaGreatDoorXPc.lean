/-
  Walk: a line of an instruction, as the reference reads it (toInstr).
-/
import Derived.Test.YtbipeakinmbdiaaGreatDoorXPb
namespace Go.Proofs.YtbipeakinmbdiaaGreatDoor
open Go.RowKit

@[reducible] def shC (op : Int) : Array Value := #[.int .i64 op, .string (sh op).1, .string (sh op).2.1, .string (sh op).2.2.1, .string (sh op).2.2.2]
/-- the opcode of a name among the first ones, 0: none -/
def upO (p : List UInt8) (k : Nat) : Int := if opOf p ≤ (k : Int) then opOf p else 0
theorem op_rng (p : List UInt8) : 0 ≤ opOf p ∧ opOf p ≤ 25 := by
  by_cases h : opOf p = 0
  · rw [h]; decide
  · have := (opOf_some h).2
    unfold okOp at this
    simp at this
    omega
theorem up_zero (p : List UInt8) : upO p 0 = 0 := by unfold upO; have := op_rng p; split <;> omega
theorem up_all (p : List UInt8) : upO p 25 = opOf p := by unfold upO; have := op_rng p; rw [if_pos (by omega)]
theorem up_yes {p : List UInt8} {k : Nat} (hk : k < 25) (h : nameL ((k : Int) + 1) = p) : upO p (k + 1) = (k : Int) + 1 := by
  have e := (name_op (op := (k : Int) + 1) (by unfold okOp; simp; omega)).1
  rw [h] at e
  unfold upO
  rw [e, if_pos (by omega)]
theorem up_no {p : List UInt8} {k : Nat} (h : nameL ((k : Int) + 1) ≠ p) : upO p (k + 1) = upO p k := by
  have hne : opOf p ≠ (k : Int) + 1 := by
    intro e
    have := (opOf_some (s := p) (by omega)).1
    rw [e] at this
    exact h this
  unfold upO
  split <;> split <;> first | rfl | (exfalso; omega)
theorem tab2_cells {w : World} {b : Nat} (h : Blk w b 97 tab2A) {k : Nat} (hk : k < 25) :
    w.cell? ⟨b, k * 5, none⟩ = some (.int .i64 ((k : Int) + 1)) ∧ w.cell? ⟨b, k * 5 + 1, none⟩ = some (.string (sh ((k : Int) + 1)).1) ∧ w.cell? ⟨b, k * 5 + 2, none⟩ = some (.string (sh ((k : Int) + 1)).2.1) ∧
    w.cell? ⟨b, k * 5 + 3, none⟩ = some (.string (sh ((k : Int) + 1)).2.2.1) ∧ w.cell? ⟨b, k * 5 + 4, none⟩ = some (.string (sh ((k : Int) + 1)).2.2.2) := by
  have h0 := shape2_at (op := (k : Int) + 1) (by omega) (by omega)
  rw [show ((k : Int) + 1 - 1).toNat = k by omega] at h0
  obtain ⟨t0, t1, t2, t3, t4⟩ := tab2_at h0
  have ec : ∀ j, w.cell? ⟨b, j, none⟩ = (tab2L shape2L)[j]? := fun j => by
    rw [h.cell j]
    show tab2A[j]? = _
    unfold tab2A
    simp
  exact ⟨(ec _).trans t0, (ec _).trans t1, (ec _).trans t2, (ec _).trans t3, (ec _).trans t4⟩
/-- the fields that are read so far -/
def tfUp (op : Int) (ws : List (List UInt8)) (k : Nat) : In := (((flds op).zip ws).take k).foldl (fun y q => tfStep y q.1 q.2) ⟨op, 0, 0, 0, ⟨#[]⟩, 0⟩
theorem tf_snoc {op : Int} {ws : List (List UInt8)} {k : Nat} {c : UInt8} {w : List UInt8} (hc : (flds op)[k]? = some c) (hw : ws[k]? = some w) : tfUp op ws (k + 1) = tfStep (tfUp op ws k) c w := by
  have h : ((flds op).zip ws)[k]? = some (c, w) := by rw [List.getElem?_zip_eq_some]; exact ⟨hc, hw⟩
  unfold tfUp
  rw [List.take_add_one, h, List.foldl_append]
  rfl
theorem tf_all {op : Int} {ws : List (List UInt8)} {k : Nat} (h : (flds op).length ≤ k) : tfUp op ws k = tfOf op ws := by
  unfold tfUp tfOf
  rw [List.take_of_length_le (by rw [List.length_zip]; omega)]
/-- where the walk of toInstr stands -/
structure TiB (w wr : World) (base r0 g cap : Nat) (q : List (List UInt8)) : Prop where
  rs : BoxI wr r0 zIn
  ow : wr.ownsRow base 9 1 (.slice (some ⟨g, 0, none⟩) q.length cap) q.length (sCs q)
  kp : Below w.heap.size w wr
  pl : w.heap.size ≤ r0 ∧ r0 < g
section
variable {w wr w2 : World} {base r0 g cap : Nat} {q : List (List UInt8)}
theorem TiB.next (h : TiB w wr base r0 g cap q) (hb : Below wr.heap.size wr w2) : TiB w w2 base r0 g cap q := ⟨Blk.next h.rs hb, own_next h.ow hb, bNext h.kp hb, h.pl⟩
theorem TiB.far (h : TiB w wr base r0 g cap q) {b i : Nat} (hb : g < b) (v : Value) : TiB w (wr.setCell ⟨b, i, none⟩ v) base r0 g cap q := by
  have hp := h.pl
  exact ⟨Blk.far h.rs (by show r0 ≠ b; omega) _, ownsRow_setCell_other h.ow (by show some g ≠ some b; intro e; injection e; omega) _, h.kp.setCell (by show w.heap.size ≤ b; omega) _, hp⟩
theorem TiB.word (h : TiB w wr base r0 g cap q) {k : Nat} {t : List UInt8} (hk : q[k]? = some t) : wr.cell? ⟨g, k, none⟩ = some (.string (S t)) := by
  rw [h.ow.cellAt (g := g) k (by rw [Nat.mul_one]; exact (List.getElem?_eq_some_iff.1 hk).1)]
  unfold sCs
  rw [List.getElem?_map, hk]
  rfl
end
/-- where the second walk of toInstr stands -/
structure Ti2 (w wr : World) (base r0 g cap b5 b7 : Nat) (q : List (List UInt8)) (op : Int) (y : In) : Prop where
  tb : TiB w wr base r0 g cap q
  sb : Blk wr b5 97 (shC op)
  ib : BoxI wr b7 y
  lt : g < b5 ∧ b5 < b7
section
variable {w wr w2 : World} {base r0 g cap b5 b7 : Nat} {q : List (List UInt8)} {op : Int} {y y' : In}
theorem Ti2.next (h : Ti2 w wr base r0 g cap b5 b7 q op y) (hb : Below wr.heap.size wr w2) : Ti2 w w2 base r0 g cap b5 b7 q op y := ⟨h.tb.next hb, h.sb.next hb, Blk.next h.ib hb, h.lt⟩
theorem Ti2.put (h : Ti2 w wr base r0 g cap b5 b7 q op y) {i : Nat} {v : Value} (h2 : BoxI (wr.setCell ⟨b7, i, none⟩ v) b7 y') : Ti2 w (wr.setCell ⟨b7, i, none⟩ v) base r0 g cap b5 b7 q op y' := by
  have hl := h.lt
  exact ⟨h.tb.far (by omega) _, h.sb.far (by show b5 ≠ b7; omega) _, h2, hl⟩
end
set_option maxRecDepth 100000 in
set_option maxHeartbeats 4000000 in
theorem toInstr_any (l : List UInt8) (w : World) (hs : l.length ≤ 1000000) : Calls Tryz.prog 61 #[.string (S l)] w fun e w' => ∃ x b, e = .returned (.tuple #[In.v x, .bool b]) ∧ lineP l = (if b = true then some x else none) ∧ Below w.heap.size w w' := by
  have HTI := Lib.hid (ti_line l)
  have HLS := Lib.hid hs
  obtain ⟨q, hq⟩ : ∃ q, Hid (q = ptP l) := ⟨_, rfl⟩
  obtain ⟨p0, hp0⟩ : ∃ p0, Hid (p0 = q.headD []) := ⟨_, rfl⟩
  obtain ⟨op, hop⟩ : ∃ op, Hid (op = opOf p0) := ⟨_, rfl⟩
  have HQ1 := Lib.hid (show 1 ≤ q.length ∧ q.length ≤ 1000001 by
    rw [hq.out]
    unfold ptP
    have := (pt_len l).1
    rw [List.length_append, List.length_singleton]
    omega)
  have HQ0 := Lib.hid (show q[0]? = some p0 by
    rw [hp0.out]
    have := HQ1.out.1
    cases q with
    | nil => simp at this
    | cons a t => rfl)
  have HWL := Lib.hid (show ∀ (k : Nat) (t : List UInt8), q[k]? = some t → t.length ≤ 1000000 from fun k t hk => by
    rw [hq.out] at hk
    have := pt_word_len l t (List.mem_of_getElem? hk)
    omega)
  obtain ⟨r0, hr0⟩ : ∃ X, Hid (X = w.heap.size) := ⟨_, rfl⟩
  obtain ⟨w1, hw1⟩ : ∃ X, Hid (X = w.alloc (.cells #[.int .i64 0, .int .i64 0, .int .i64 0, .int .i64 0, .string ⟨#[]⟩, .int .i64 0] 34)) := ⟨_, rfl⟩
  have HR1 := Lib.hid (show BoxI w1 r0 zIn by rw [hw1.out, hr0.out]; exact BoxI.new _ zIn)
  have HK1 := Lib.hid (show Below w.heap.size w w1 by rw [hw1.out]; exact bAlloc _ _)
  clear hs
  go_enter Tryz.func61, Tryz.ntmps61
  go_upto_region 1 with fail
  rw [← hw1.out, ← hr0.out]
  go_wp2_with fail
  refine (parts_any l w1 HLS.out).mono ?_
  rintro e w2 ⟨v, rfl, ho, hb⟩
  rw [← hq.out] at ho
  obtain ⟨g, cap, rfl⟩ := own_some2 ho HQ1.out.1
  have HT2 := Lib.hid (show TiB w w2 w1.heap.size r0 g cap q from ⟨Blk.next HR1.out hb, ho, bNext HK1.out hb, by
    have h1 := (own_lt ho (g := g) rfl).1
    have h2 := Blk.lt HR1.out
    have h3 := hr0.out
    omega⟩)
  have HGL := Lib.hid (own_lt ho (g := g) rfl).2
  clear ho hb HR1 HK1 hw1 hr0
  go_upto_region 3 with fail
  obtain ⟨w3, hw3⟩ : ∃ X, Hid (X = w2.alloc (.cells #[.int .i64 0, .string ⟨#[]⟩, .string ⟨#[]⟩, .string ⟨#[]⟩, .string ⟨#[]⟩] 97)) := ⟨_, rfl⟩
  obtain ⟨b5, hb5⟩ : ∃ X, Hid (X = w2.heap.size) := ⟨_, rfl⟩
  rw [← hw3.out, ← hb5.out]
  have HS3 := Lib.hid (show Blk w3 b5 97 (shC (upO p0 0)) by rw [up_zero, hw3.out, hb5.out]; exact Blk.new _ _ _)
  have HT3 := Lib.hid (show TiB w w3 w1.heap.size r0 g cap q by rw [hw3.out]; exact HT2.out.next (bAlloc _ _))
  have HP5 := Lib.hid (show g < b5 by rw [hb5.out]; exact HGL.out)
  obtain ⟨base, hbase⟩ : ∃ X, X = w1.heap.size := ⟨_, rfl⟩
  rw [← hbase] at HT3
  clear hw3 hb5 HT2 HGL hbase
  go_wp2_with fail
  go_loopw [6] (fun i wr => ∃ k : Nat, i = .int .i64 (k : Int) ∧ k ≤ 25 ∧ Hid (TiB w wr base r0 g cap q ∧ Blk wr b5 97 (shC (upO p0 k)))) (fun i _ => 25 - (intOf i).toNat)
  case atStart => exact ⟨0, rfl, Nat.zero_le _, Lib.hid ⟨HT3.out, HS3.out⟩⟩
  case round =>
    obtain ⟨k, rfl, hk, HL⟩ := hrel
    by_cases hlt : k < 25
    · have hlj : decide ((k : Int) < 25) = true := decide_eq_true (by omega)
      go_wp2_with fail
      refine (Shapes_any wr).mono ?_
      rintro e w4 ⟨rfl, hb, _⟩
      have HT4 := Lib.hid (HL.out.1.next hb)
      have HS4 := Lib.hid (HL.out.2.next hb)
      clear hb HL
      go_upto_region 6 with fail
      obtain ⟨t, ht⟩ : ∃ t, ((sh ((k : Int) + 1)).1.toList == (S p0).toList) = t := ⟨_, rfl⟩
      have HTN := Lib.hid (show (nameL ((k : Int) + 1) == p0) = t by
        rw [← ht, ByteArray.toList_eq, ByteArray.toList_eq, S_list]
        rfl)
      obtain ⟨D, hD⟩ : ∃ X, Hid (X = w4.drew) := ⟨_, rfl⟩
      have hq0 : 0 < q.length := HQ1.out.1
      refine wp_region_N (fun w' => Below w4.heap.size w4 w') (fun _ => true) (by kernel_rfl) ?_
      rw [← hD.out]
      have hS0 : Below w4.heap.size w4 D := by rw [hD.out]; exact bDrew _
      refine wpAnyN_take (i := 1) (v := ?v1) rfl (by kernel_rfl) (by kernel_rfl) (by kernel_rfl) (by kernel_rfl) (fun _ _ _ h => h) (Or.inl ⟨by rfl, ?hy1⟩) (by assumption) ?_
      case hy1 => intro w hSw; (try dsimp only at hSw); go_simp; try with_reducible rfl
      simp only [Act.put, List.getElem_toArray, List.getElem_cons_zero, List.getElem_cons_succ, List.setIfInBounds_toArray, List.set_cons_zero, List.set_cons_succ]
      refine wpAnyN_take (i := 5) (v := ?v2) rfl (by kernel_rfl) (by kernel_rfl) (by kernel_rfl) (by kernel_rfl) (fun _ _ _ h => h) (Or.inl ⟨by rfl, ?hy2⟩) (by assumption) ?_
      case hy2 => intro w hSw; (try dsimp only at hSw); go_simp; try with_reducible rfl
      simp only [Act.put, List.getElem_toArray, List.getElem_cons_zero, List.getElem_cons_succ, List.setIfInBounds_toArray, List.set_cons_zero, List.set_cons_succ]
      refine wpAnyN_take (i := 6) (v := ?v3) rfl (by kernel_rfl) (by kernel_rfl) (by kernel_rfl) (by kernel_rfl) (fun _ _ _ h => h) (Or.inl ⟨by rfl, ?hy3⟩) (by assumption) ?_
      case hy3 => intro w hSw; (try dsimp only at hSw); go_simp; try with_reducible rfl
      simp only [Act.put, List.getElem_toArray, List.getElem_cons_zero, List.getElem_cons_succ, List.setIfInBounds_toArray, List.set_cons_zero, List.set_cons_succ]
      refine wpAnyN_take (i := 7) (v := .string (S p0)) rfl (by kernel_rfl) (by kernel_rfl) (by kernel_rfl) (by kernel_rfl) (fun _ _ _ h => h) (Or.inl ⟨by rfl, ?b17⟩) (by assumption) ?_
      case b17 => intro w hSw; have c0 := (HT4.out.next hSw).word HQ0.out; go_simp; try with_reducible rfl
      simp only [Act.put, List.getElem_toArray, List.getElem_cons_zero, List.getElem_cons_succ, List.setIfInBounds_toArray, List.set_cons_zero, List.set_cons_succ]
      refine wpAnyN_one (i := 0) (by kernel_rfl) rfl (fun K hK => ?_)
      simp only [List.getElem_toArray, List.getElem_cons_zero]
      go_simp
      refine (Shapes_any D).mono ?_
      rintro e w5 ⟨rfl, hb, hblk⟩
      have hS5 : Below w4.heap.size w4 w5 := bNext hS0 hb
      obtain ⟨c0, c1, c2, c3, c4⟩ := tab2_cells hblk hlt
      refine hK _ _ (fun _ => hS5) ?_
      clear hK
      (try simp only [Act.put, List.setIfInBounds_toArray, List.set_cons_zero, List.set_cons_succ])
      refine wpAnyN_one (i := 2) (by kernel_rfl) rfl (fun K hK => ?_)
      simp only [List.getElem_toArray, List.getElem_cons_zero, List.getElem_cons_succ]
      go_simp
      rw [if_pos (show (k : Int) < 25 by omega)]
      refine hK _ _ (fun _ => hS5) ?_
      clear hK
      (try simp only [Act.put, List.setIfInBounds_toArray, List.set_cons_zero, List.set_cons_succ])
      refine wpAnyN_one (i := 3) (by kernel_rfl) rfl (fun K hK => ?_)
      simp only [List.getElem_toArray, List.getElem_cons_zero, List.getElem_cons_succ]
      go_simp
      refine hK _ _ (fun _ => hS5) ?_
      clear hK
      (try simp only [Act.put, List.setIfInBounds_toArray, List.set_cons_zero, List.set_cons_succ])
      refine wpAnyN_one (i := 4) (by kernel_rfl) rfl (fun K hK => ?_)
      simp only [List.getElem_toArray, List.getElem_cons_zero, List.getElem_cons_succ]
      go_simp
      refine hK _ _ (fun _ => hS5) ?_
      clear hK
      (try simp only [Act.put, List.setIfInBounds_toArray, List.set_cons_zero, List.set_cons_succ])
      refine wpAnyN_one (i := 8) (by kernel_rfl) rfl (fun K hK => ?_)
      simp only [List.getElem_toArray, List.getElem_cons_zero, List.getElem_cons_succ]
      go_simp
      refine hK _ _ (fun _ => hS5) ?_
      clear hK
      (try simp only [Act.put, List.setIfInBounds_toArray, List.set_cons_zero, List.set_cons_succ])
      refine wpAnyN_done (by kernel_rfl) ?_ _
      have HT5 := Lib.hid (HT4.out.next hS5)
      have HS5 := Lib.hid (HS4.out.next hS5)
      clear hS0 hS5 hb hblk c0 c1 c2 c3 c4 HT4 HS4 hD
      cases t
      · have HU := Lib.hid (up_no (p := p0) (k := k) (by simpa using HTN.out))
        go_wp2_with fail
        exact ⟨⟨k + 1, by go_num, hlt, by rw [HU.out]; exact Lib.hid ⟨HT5.out, HS5.out⟩⟩, by simp only [intOf]; omega⟩
      · have HU := Lib.hid (up_yes (p := p0) (k := k) hlt (by simpa using HTN.out))
        go_wp2_with fail
        refine (Shapes_any w5).mono ?_
        rintro e w6 ⟨rfl, hb, hblk⟩
        have HT6 := Lib.hid (HT5.out.next hb)
        have HS6 := Lib.hid (HS5.out.next hb)
        obtain ⟨c0, c1, c2, c3, c4⟩ := tab2_cells hblk hlt
        clear hb hblk HT5 HS5
        have s0 := HS6.out.cell 0
        have s1 := HS6.out.cell 1
        have s2 := HS6.out.cell 2
        have s3 := HS6.out.cell 3
        have s4 := HS6.out.cell 4
        have f0 := HS6.out.frozen 0
        have f1 := HS6.out.frozen 1
        have f2 := HS6.out.frozen 2
        have f3 := HS6.out.frozen 3
        have f4 := HS6.out.frozen 4
        have sl := HS6.out.lt
        simp at s0 s1 s2 s3 s4
        go_wp2_with fail
        obtain ⟨x, hx⟩ : ∃ x, x = (k : Int) + 1 := ⟨_, rfl⟩
        rw [← hx] at HU
        have HS7 := Lib.hid (((((HS6.out.set_ 0 (.int .i64 x)).set_ 1 (.string (sh x).1)).set_ 2 (.string (sh x).2.1)).set_ 3 (.string (sh x).2.2.1)).set_ 4 (.string (sh x).2.2.2))
        have HT7 := Lib.hid (((((HT6.out.far HP5.out (i := 0) (.int .i64 x)).far HP5.out (i := 1) (.string (sh x).1)).far HP5.out (i := 2) (.string (sh x).2.1)).far HP5.out (i := 3) (.string (sh x).2.2.1)).far HP5.out (i := 4) (.string (sh x).2.2.2))
        rw [hx] at HS7 HT7
        exact ⟨⟨k + 1, by go_num, hlt, by rw [HU.out, hx]; exact Lib.hid ⟨HT7.out, HS7.out⟩⟩, by simp only [intOf]; omega⟩
    · obtain rfl : k = 25 := by omega
      rw [show ((25 : Nat) : Int) = 25 from rfl]
      have hlj : decide ((25 : Int) < 25) = false := by decide
      rw [up_all, ← hop.out] at HL
      go_wp2_with fail
      refine (Shapes_any wr).mono ?_
      rintro e w4 ⟨rfl, hb, _⟩
      have HT4 := Lib.hid (HL.out.1.next hb)
      have HS4 := Lib.hid (HL.out.2.next hb)
      clear hb HL
      have s0 := HS4.out.cell 0
      have s2 := HS4.out.cell 2
      have sl := HS4.out.lt
      simp at s0 s2
      have hsz := flds_size op
      have HFL := Lib.hid (show (flds op).length = (sh op).2.1.size from rfl)
      obtain ⟨t, ht⟩ : ∃ t, (op == 0) = t := ⟨_, rfl⟩
      cases t
      · obtain ⟨s, hss⟩ : ∃ s, Hid (s = (sh op).2.1) := ⟨_, rfl⟩
        rw [← hss.out] at s2 hsz HFL
        obtain ⟨u, hu⟩ : ∃ u, ((q.length : Int) == ((s.size : Int) + 1)) = u := ⟨_, rfl⟩
        cases u
        · have HQ := Lib.hid (show lineP l = none by
            have e : tiP l = (zeroI, false) := by
              unfold tiP
              rw [← hq.out, ← hp0.out, ← hop.out]
              exact if_pos (.inr (by rw [HFL.out]; have : ¬ ((q.length : Int) = (s.size : Int) + 1) := by simpa using hu
                                     omega))
            rw [HTI.out, e]
            rfl)
          obtain ⟨p0, p1, p2, p3, p4, p5⟩ := BoxI.cells HT4.out.rs
          obtain ⟨f0, f1, f2, f3, f4, f5⟩ := BoxI.open_ HT4.out.rs
          have pl := Blk.lt HT4.out.rs
          go_wp2_with fail
          obtain ⟨X, hX⟩ : ∃ X, Hid (X = (((((w4.setCell ⟨r0, 0, none⟩ (.int .i64 0)).setCell ⟨r0, 1, none⟩ (.int .i64 0)).setCell ⟨r0, 2, none⟩ (.int .i64 0)).setCell ⟨r0, 3, none⟩ (.int .i64 0)).setCell ⟨r0, 4, none⟩ (.string ⟨#[]⟩)).setCell ⟨r0, 5, none⟩ (.int .i64 0)) := ⟨_, rfl⟩
          rw [← hX.out]
          have HXR := Lib.hid (show BoxI X r0 zIn by
            rw [hX.out]
            exact (((((Blk.set_ HT4.out.rs 0 (.int .i64 0)).set_ 1 (.int .i64 0)).set_ 2 (.int .i64 0)).set_ 3 (.int .i64 0)).set_ 4 (.string ⟨#[]⟩)).set_ 5 (.int .i64 0))
          have HXK := Lib.hid (show Below w.heap.size w X by
            have hh := HT4.out.pl.1
            rw [hX.out]
            exact (((((HT4.out.kp.setCell hh _).setCell hh _).setCell hh _).setCell hh _).setCell hh _).setCell hh _)
          clear p0 p1 p2 p3 p4 p5 f0 f1 f2 f3 f4 f5 pl
          obtain ⟨p0, p1, p2, p3, p4, p5⟩ := BoxI.cells HXR.out
          obtain ⟨f0, f1, f2, f3, f4, f5⟩ := BoxI.open_ HXR.out
          have pl := Blk.lt HXR.out
          refine bodyPost_ret (v := .tuple #[zIn.v, .bool false]) (by simp only [results, Tryz.results61]; go_simp) rfl ?_
          exact ⟨zIn, false, rfl, HQ.out, HXK.out⟩
        · have hql : q.length = s.size + 1 := by
            have : ((q.length : Int) = (s.size : Int) + 1) := by simpa using hu
            omega
          have HQL := Lib.hid hql
          have HLP := Lib.hid (show lineP l = if (fo (tfOf op (q.drop 1)) && (lineL (tfOf op (q.drop 1)) == l)) = true then some (tfOf op (q.drop 1)) else none by
            have e : tiP l = (tfOf op (q.drop 1), fo (tfOf op (q.drop 1)) && (lineL (tfOf op (q.drop 1)) == l)) := by
              unfold tiP
              rw [← hq.out, ← hp0.out, ← hop.out]
              refine if_neg ?_
              rintro (h | h)
              · rw [h] at ht; cases ht
              · exact h (by rw [HFL.out]; exact HQL.out)
            rw [HTI.out, e])
          clear hql
          go_upto_region 11 with fail
          rw [show ((q.length : Int) != (s.size : Int) + 1) = false by rw [bne, hu]; rfl]
          obtain ⟨b7, hb7⟩ : ∃ X, Hid (X = w4.heap.size) := ⟨_, rfl⟩
          rw [← hb7.out]
          obtain ⟨w5, hw5⟩ : ∃ X, Hid (X = w4.alloc (.cells #[.int .i64 op, .int .i64 0, .int .i64 0, .int .i64 0, .string ⟨#[]⟩, .int .i64 0] 34)) := ⟨_, rfl⟩
          rw [← hw5.out]
          have H5 := Lib.hid (show Ti2 w w5 base r0 g cap b5 b7 q op (tfUp op (q.drop 1) 0) by
            rw [hw5.out, hb7.out]
            exact ⟨HT4.out.next (bAlloc _ _), HS4.out.next (bAlloc _ _), BoxI.new _ (⟨op, 0, 0, 0, ⟨#[]⟩, 0⟩ : In), HP5.out, HS4.out.lt⟩)
          clear hw5 hb7 HT4 HS4 s0 s2 sl ht hu
          go_wp2_with fail
          go_loopw [8] (fun i wr => ∃ k : Nat, i = .int .i64 (k : Int) ∧ k ≤ s.size ∧ Hid (Ti2 w wr base r0 g cap b5 b7 q op (tfUp op (q.drop 1) k))) (fun i _ => s.size - (intOf i).toNat)
          case atStart => exact ⟨0, rfl, Nat.zero_le _, H5⟩
          case round =>
            obtain ⟨k, rfl, hk, HL⟩ := hrel
            have s2 := HL.out.sb.cell 2
            have sl := HL.out.sb.lt
            simp at s2
            rw [← hss.out] at s2
            by_cases hlt : k < s.size
            · have hlj : decide ((k : Int) < (s.size : Int)) = true := decide_eq_true (by omega)
              have hkq : k + 1 < q.length := by have := HQL.out; omega
              obtain ⟨wd, hwd⟩ : ∃ wd, q[k + 1]? = some wd := ⟨_, List.getElem?_eq_getElem hkq⟩
              have hwl := HWL.out _ _ hwd
              have c0 := HL.out.tb.word hwd
              have hw1 : IntKind.wrap .i64 ((k : Int) + 1) = (k : Int) + 1 := wrapI (by omega)
              have hget : (flds op)[k]? = some (s[k]'hlt) := by
                unfold flds; rw [← hss.out]; simp [hlt]; rfl
              have hmem := flds_mem op _ (List.mem_of_getElem? hget)
              have HTF := Lib.hid (tf_snoc (ws := q.drop 1) hget (show (q.drop 1)[k]? = some wd by rw [List.getElem?_drop, Nat.add_comm]; exact hwd))
              clear hget hwd
              obtain ⟨p0, p1, p2, p3, p4, p5⟩ := BoxI.cells HL.out.ib
              obtain ⟨f0, f1, f2, f3, f4, f5⟩ := BoxI.open_ HL.out.ib
              have pl := Blk.lt HL.out.ib
              rcases hmem with hc | hc | hc | hc | hc | hc | hc | hc
              · have hn : (s[k]'hlt).toNat = 114 := by rw [hc]; rfl
                have HC := Lib.hid hc
                clear hc
                go_wp2_with fail
                refine (toRegister_any wd wr (by omega)).mono ?_
                rintro e w6 ⟨rfl, rfl⟩
                go_wp2_with fail
                exact ⟨⟨k + 1, by go_num, by omega, Lib.hid (by
                  rw [HTF.out, HC.out]
                  exact HL.out.put (BoxI.setR HL.out.ib _))⟩, by simp only [intOf]; omega⟩
              · have hn : (s[k]'hlt).toNat = 97 := by rw [hc]; rfl
                have HC := Lib.hid hc
                clear hc
                go_wp2_with fail
                refine (toRegister_any wd wr (by omega)).mono ?_
                rintro e w6 ⟨rfl, rfl⟩
                go_wp2_with fail
                exact ⟨⟨k + 1, by go_num, by omega, Lib.hid (by
                  rw [HTF.out, HC.out]
                  exact HL.out.put (BoxI.setA HL.out.ib _))⟩, by simp only [intOf]; omega⟩
              · have hn : (s[k]'hlt).toNat = 110 := by rw [hc]; rfl
                have HC := Lib.hid hc
                clear hc
                go_wp2_with fail
                refine (toNumber_any wd wr (by omega)).mono ?_
                rintro e w6 ⟨rfl, rfl⟩
                go_wp2_with fail
                exact ⟨⟨k + 1, by go_num, by omega, Lib.hid (by
                  rw [HTF.out, HC.out]
                  exact HL.out.put (BoxI.setN HL.out.ib _))⟩, by simp only [intOf]; omega⟩
              · have hn : (s[k]'hlt).toNat = 118 := by rw [hc]; rfl
                have HC := Lib.hid hc
                clear hc
                go_wp2_with fail
                refine (toNumber_any wd wr (by omega)).mono ?_
                rintro e w6 ⟨rfl, rfl⟩
                go_wp2_with fail
                exact ⟨⟨k + 1, by go_num, by omega, Lib.hid (by
                  rw [HTF.out, HC.out]
                  exact HL.out.put (BoxI.setN HL.out.ib _))⟩, by simp only [intOf]; omega⟩
              · have hn : (s[k]'hlt).toNat = 99 := by rw [hc]; rfl
                have HC := Lib.hid hc
                clear hc
                go_wp2_with fail
                refine (toNumber_any wd wr (by omega)).mono ?_
                rintro e w6 ⟨rfl, rfl⟩
                go_wp2_with fail
                exact ⟨⟨k + 1, by go_num, by omega, Lib.hid (by
                  rw [HTF.out, HC.out]
                  exact HL.out.put (BoxI.setN HL.out.ib _))⟩, by simp only [intOf]; omega⟩
              · have hn : (s[k]'hlt).toNat = 115 := by rw [hc]; rfl
                have HC := Lib.hid hc
                clear hc
                clear p0 p1 p2 p3 p4 p5 f0 f1 f2 f3 f4 f5 pl
                go_wp2_with fail
                refine (toName_any wd wr hwl).mono ?_
                rintro e w6 ⟨rfl, hb⟩
                have HL6 := Lib.hid (HL.out.next hb)
                clear hb HL c0 s2 sl
                obtain ⟨z, hz⟩ : ∃ z, Hid (z = tmP (wd.drop 1)) := ⟨_, rfl⟩
                rw [← hz.out]
                have HFIN := Lib.hid (show tfUp op (q.drop 1) (k + 1) = { tfUp op (q.drop 1) k with nm := S z } by rw [HTF.out, HC.out, hz.out]; rfl)
                obtain ⟨p0, p1, p2, p3, p4, p5⟩ := BoxI.cells HL6.out.ib
                obtain ⟨f0, f1, f2, f3, f4, f5⟩ := BoxI.open_ HL6.out.ib
                have pl := Blk.lt HL6.out.ib
                go_wp2_with fail
                exact ⟨⟨k + 1, by go_num, by omega, Lib.hid (by rw [HFIN.out]; exact HL6.out.put (BoxI.setNm HL6.out.ib _))⟩, by simp only [intOf]; omega⟩
              · have hn : (s[k]'hlt).toNat = 102 := by rw [hc]; rfl
                have HC := Lib.hid hc
                clear hc
                clear p0 p1 p2 p3 p4 p5 f0 f1 f2 f3 f4 f5 pl
                go_wp2_with fail
                refine (toPred_any wd wr hwl).mono ?_
                rintro e w6 ⟨rfl, hb⟩
                have HL6 := Lib.hid (HL.out.next hb)
                clear hb c0 s2 sl
                obtain ⟨y, hy⟩ : ∃ y, Hid (y = tfUp op (q.drop 1) k) := ⟨_, rfl⟩
                rw [← hy.out] at HL6 HTF
                clear HL
                go_upto_region 26 with fail
                obtain ⟨w7, hw7⟩ : ∃ X, Hid (X = w6.alloc (.cells #[.string (S (tpP wd).1), .int .i64 (tpP wd).2.1, .int .i64 (tpP wd).2.2] 23)) := ⟨_, rfl⟩
                obtain ⟨b10, hb10⟩ : ∃ X, Hid (X = w6.heap.size) := ⟨_, rfl⟩
                rw [← hw7.out, ← hb10.out]
                obtain ⟨D, hD⟩ : ∃ X, Hid (X = w7.drew) := ⟨_, rfl⟩
                have HL7 := Lib.hid (show Ti2 w D base r0 g cap b5 b7 q op y by rw [hD.out, hw7.out]; exact (HL6.out.next (bAlloc _ _)).next (bDrew _))
                have HP7 := Lib.hid (show Blk D b10 23 #[.string (S (tpP wd).1), .int .i64 (tpP wd).2.1, .int .i64 (tpP wd).2.2] by rw [hD.out, hw7.out, hb10.out]; exact Blk.next (Blk.new _ _ _) (bDrew _))
                have HNE := Lib.hid (show b10 ≠ b7 by have := Blk.lt HL6.out.ib; have := hb10.out; omega)
                refine wp_region_N (fun w' => Blk w' b10 23 #[.string (S (tpP wd).1), .int .i64 (tpP wd).2.1, .int .i64 (tpP wd).2.2]) (fun _ => true) (by kernel_rfl) ?_
                rw [← hD.out]
                clear hw7 hD hb10 HL6
                obtain ⟨a1, ha1⟩ : ∃ a, Hid (a = (tpP wd).1) := ⟨_, rfl⟩
                obtain ⟨a2, ha2⟩ : ∃ a, Hid (a = (tpP wd).2.1) := ⟨_, rfl⟩
                obtain ⟨a3, ha3⟩ : ∃ a, Hid (a = (tpP wd).2.2) := ⟨_, rfl⟩
                rw [← ha1.out, ← ha2.out, ← ha3.out] at HP7 ⊢
                have hS0 := HP7.out
                refine wpAnyN_take (i := 0) (v := ?v4) rfl (by kernel_rfl) (by kernel_rfl) (by kernel_rfl) (by kernel_rfl) (fun _ _ _ h => h) (Or.inl ⟨by rfl, ?hy4⟩) (by assumption) ?_
                case hy4 => intro w hSw; (try dsimp only at hSw); go_simp; try with_reducible rfl
                simp only [Act.put, List.getElem_toArray, List.getElem_cons_zero, List.setIfInBounds_toArray, List.set_cons_zero, List.set_cons_succ]
                refine wpAnyN_take (i := 1) (v := .string (S a1)) rfl (by kernel_rfl) (by kernel_rfl) (by kernel_rfl) (by kernel_rfl) (fun _ _ _ h => h) (Or.inl ⟨by rfl, ?by1⟩) (by assumption) ?_
                case by1 => intro w hSw; have g0 := hSw.cell 0;have gl := hSw.lt;simp at g0; go_simp; try with_reducible rfl
                simp only [Act.put, List.getElem_toArray, List.getElem_cons_zero, List.getElem_cons_succ, List.setIfInBounds_toArray, List.set_cons_zero, List.set_cons_succ]
                refine wpAnyN_take (i := 2) (v := ?v5) rfl (by kernel_rfl) (by kernel_rfl) (by kernel_rfl) (by kernel_rfl) (fun _ _ _ h => h) (Or.inl ⟨by rfl, ?hy5⟩) (by assumption) ?_
                case hy5 => intro w hSw; (try dsimp only at hSw); go_simp; try with_reducible rfl
                simp only [Act.put, List.getElem_toArray, List.getElem_cons_zero, List.getElem_cons_succ, List.setIfInBounds_toArray, List.set_cons_zero, List.set_cons_succ]
                refine wpAnyN_take (i := 3) (v := .int .i64 a2) rfl (by kernel_rfl) (by kernel_rfl) (by kernel_rfl) (by kernel_rfl) (fun _ _ _ h => h) (Or.inl ⟨by rfl, ?by3⟩) (by assumption) ?_
                case by3 => intro w hSw; have g0 := hSw.cell 1;have gl := hSw.lt;simp at g0; go_simp; try with_reducible rfl
                simp only [Act.put, List.getElem_toArray, List.getElem_cons_zero, List.getElem_cons_succ, List.setIfInBounds_toArray, List.set_cons_zero, List.set_cons_succ]
                refine wpAnyN_take (i := 4) (v := ?v6) rfl (by kernel_rfl) (by kernel_rfl) (by kernel_rfl) (by kernel_rfl) (fun _ _ _ h => h) (Or.inl ⟨by rfl, ?hy6⟩) (by assumption) ?_
                case hy6 => intro w hSw; (try dsimp only at hSw); go_simp; try with_reducible rfl
                simp only [Act.put, List.getElem_toArray, List.getElem_cons_zero, List.getElem_cons_succ, List.setIfInBounds_toArray, List.set_cons_zero, List.set_cons_succ]
                refine wpAnyN_take (i := 5) (v := .int .i64 a3) rfl (by kernel_rfl) (by kernel_rfl) (by kernel_rfl) (by kernel_rfl) (fun _ _ _ h => h) (Or.inl ⟨by rfl, ?by5⟩) (by assumption) ?_
                case by5 => intro w hSw; have g0 := hSw.cell 2;have gl := hSw.lt;simp at g0; go_simp; try with_reducible rfl
                simp only [Act.put, List.getElem_toArray, List.getElem_cons_zero, List.getElem_cons_succ, List.setIfInBounds_toArray, List.set_cons_zero, List.set_cons_succ]
                refine wpAnyN_take (i := 6) (v := ?v7) rfl (by kernel_rfl) (by kernel_rfl) (by kernel_rfl) (by kernel_rfl) (fun _ _ _ h => h) (Or.inl ⟨by rfl, ?hy7⟩) (by assumption) ?_
                case hy7 => intro w hSw; (try dsimp only at hSw); go_simp; try with_reducible rfl
                simp only [Act.put, List.getElem_toArray, List.getElem_cons_zero, List.getElem_cons_succ, List.setIfInBounds_toArray, List.set_cons_zero, List.set_cons_succ]
                obtain ⟨p0, p1, p2, p3, p4, p5⟩ := BoxI.cells HL7.out.ib
                obtain ⟨f0, f1, f2, f3, f4, f5⟩ := BoxI.open_ HL7.out.ib
                have pl := Blk.lt HL7.out.ib
                refine wpAnyN_one (i := 7) (by kernel_rfl) rfl (fun K hK => ?_)
                simp only [List.getElem_toArray, List.getElem_cons_zero, List.getElem_cons_succ]
                go_simp
                obtain ⟨D2, hD2⟩ : ∃ X, Hid (X = D.setCell ⟨b7, 4, none⟩ (.string (S a1))) := ⟨_, rfl⟩
                rw [← hD2.out]
                have HL8 := Lib.hid (show Ti2 w D2 base r0 g cap b5 b7 q op { y with nm := S a1 } by rw [hD2.out]; exact HL7.out.put (BoxI.setNm HL7.out.ib _))
                have hS2 : Blk D2 b10 23 #[.string (S a1), .int .i64 a2, .int .i64 a3] := by rw [hD2.out]; exact hS0.far HNE.out _
                refine hK _ _ (fun _ => hS2) ?_
                clear hK hD2 hS0 HP7 HL7
                (try simp only [Act.put, List.setIfInBounds_toArray, List.set_cons_zero, List.set_cons_succ])
                clear p0 p1 p2 p3 p4 p5 f0 f1 f2 f3 f4 f5 pl
                refine wpAnyN_take (i := 8) (v := ?v8) rfl (by kernel_rfl) (by kernel_rfl) (by kernel_rfl) (by kernel_rfl) (fun _ _ _ h => h) (Or.inl ⟨by rfl, ?hy8⟩) (by assumption) ?_
                case hy8 => intro w hSw; (try dsimp only at hSw); go_simp; try with_reducible rfl
                simp only [Act.put, List.getElem_toArray, List.getElem_cons_zero, List.getElem_cons_succ, List.setIfInBounds_toArray, List.set_cons_zero, List.set_cons_succ]
                obtain ⟨p0, p1, p2, p3, p4, p5⟩ := BoxI.cells HL8.out.ib
                obtain ⟨f0, f1, f2, f3, f4, f5⟩ := BoxI.open_ HL8.out.ib
                have pl := Blk.lt HL8.out.ib
                refine wpAnyN_one (i := 9) (by kernel_rfl) rfl (fun K hK => ?_)
                simp only [List.getElem_toArray, List.getElem_cons_zero, List.getElem_cons_succ]
                go_simp
                obtain ⟨D3, hD3⟩ : ∃ X, Hid (X = D2.setCell ⟨b7, 5, none⟩ (.int .i64 a2)) := ⟨_, rfl⟩
                rw [← hD3.out]
                have HL9 := Lib.hid (show Ti2 w D3 base r0 g cap b5 b7 q op { y with nm := S a1, ar := a2 } by rw [hD3.out]; exact HL8.out.put (BoxI.setAr HL8.out.ib _))
                have hS3 : Blk D3 b10 23 #[.string (S a1), .int .i64 a2, .int .i64 a3] := by rw [hD3.out]; exact hS2.far HNE.out _
                refine hK _ _ (fun _ => hS3) ?_
                clear hK hD3 hS2 HL8
                (try simp only [Act.put, List.setIfInBounds_toArray, List.set_cons_zero, List.set_cons_succ])
                clear p0 p1 p2 p3 p4 p5 f0 f1 f2 f3 f4 f5 pl
                refine wpAnyN_take (i := 10) (v := ?v9) rfl (by kernel_rfl) (by kernel_rfl) (by kernel_rfl) (by kernel_rfl) (fun _ _ _ h => h) (Or.inl ⟨by rfl, ?hy9⟩) (by assumption) ?_
                case hy9 => intro w hSw; (try dsimp only at hSw); go_simp; try with_reducible rfl
                simp only [Act.put, List.getElem_toArray, List.getElem_cons_zero, List.getElem_cons_succ, List.setIfInBounds_toArray, List.set_cons_zero, List.set_cons_succ]
                obtain ⟨p0, p1, p2, p3, p4, p5⟩ := BoxI.cells HL9.out.ib
                obtain ⟨f0, f1, f2, f3, f4, f5⟩ := BoxI.open_ HL9.out.ib
                have pl := Blk.lt HL9.out.ib
                refine wpAnyN_one (i := 11) (by kernel_rfl) rfl (fun K hK => ?_)
                simp only [List.getElem_toArray, List.getElem_cons_zero, List.getElem_cons_succ]
                go_simp
                obtain ⟨D4, hD4⟩ : ∃ X, Hid (X = D3.setCell ⟨b7, 3, none⟩ (.int .i64 a3)) := ⟨_, rfl⟩
                rw [← hD4.out]
                have HLA := Lib.hid (show Ti2 w D4 base r0 g cap b5 b7 q op { y with nm := S a1, ar := a2, n := a3 } by rw [hD4.out]; exact HL9.out.put (BoxI.setN HL9.out.ib _))
                have hS4 : Blk D4 b10 23 #[.string (S a1), .int .i64 a2, .int .i64 a3] := by rw [hD4.out]; exact hS3.far HNE.out _
                refine hK _ _ (fun _ => hS4) ?_
                clear hK hD4 hS3 HL9
                (try simp only [Act.put, List.setIfInBounds_toArray, List.set_cons_zero, List.set_cons_succ])
                clear p0 p1 p2 p3 p4 p5 f0 f1 f2 f3 f4 f5 pl
                refine wpAnyN_done (by kernel_rfl) ?_ _
                go_wp2_with fail
                have HFIN := Lib.hid (show tfUp op (q.drop 1) (k + 1) = { y with nm := S a1, ar := a2, n := a3 } by rw [HTF.out, HC.out, ha1.out, ha2.out, ha3.out]; rfl)
                exact ⟨⟨k + 1, by go_num, by omega, Lib.hid (by rw [HFIN.out]; exact HLA.out)⟩, by simp only [intOf]; omega⟩
              · have hn : (s[k]'hlt).toNat = 112 := by rw [hc]; rfl
                have HC := Lib.hid hc
                clear hc
                clear p0 p1 p2 p3 p4 p5 f0 f1 f2 f3 f4 f5 pl
                go_wp2_with fail
                refine (toPred_any wd wr hwl).mono ?_
                rintro e w6 ⟨rfl, hb⟩
                have HL6 := Lib.hid (HL.out.next hb)
                clear hb c0 s2 sl
                obtain ⟨y, hy⟩ : ∃ y, Hid (y = tfUp op (q.drop 1) k) := ⟨_, rfl⟩
                rw [← hy.out] at HL6 HTF
                clear HL
                go_upto_region 26 with fail
                obtain ⟨w7, hw7⟩ : ∃ X, Hid (X = w6.alloc (.cells #[.string (S (tpP wd).1), .int .i64 (tpP wd).2.1, .int .i64 (tpP wd).2.2] 23)) := ⟨_, rfl⟩
                obtain ⟨b10, hb10⟩ : ∃ X, Hid (X = w6.heap.size) := ⟨_, rfl⟩
                rw [← hw7.out, ← hb10.out]
                obtain ⟨D, hD⟩ : ∃ X, Hid (X = w7.drew) := ⟨_, rfl⟩
                have HL7 := Lib.hid (show Ti2 w D base r0 g cap b5 b7 q op y by rw [hD.out, hw7.out]; exact (HL6.out.next (bAlloc _ _)).next (bDrew _))
                have HP7 := Lib.hid (show Blk D b10 23 #[.string (S (tpP wd).1), .int .i64 (tpP wd).2.1, .int .i64 (tpP wd).2.2] by rw [hD.out, hw7.out, hb10.out]; exact Blk.next (Blk.new _ _ _) (bDrew _))
                have HNE := Lib.hid (show b10 ≠ b7 by have := Blk.lt HL6.out.ib; have := hb10.out; omega)
                refine wp_region_N (fun w' => Blk w' b10 23 #[.string (S (tpP wd).1), .int .i64 (tpP wd).2.1, .int .i64 (tpP wd).2.2]) (fun _ => true) (by kernel_rfl) ?_
                rw [← hD.out]
                clear hw7 hD hb10 HL6
                obtain ⟨a1, ha1⟩ : ∃ a, Hid (a = (tpP wd).1) := ⟨_, rfl⟩
                obtain ⟨a2, ha2⟩ : ∃ a, Hid (a = (tpP wd).2.1) := ⟨_, rfl⟩
                obtain ⟨a3, ha3⟩ : ∃ a, Hid (a = (tpP wd).2.2) := ⟨_, rfl⟩
                rw [← ha1.out, ← ha2.out, ← ha3.out] at HP7 ⊢
                have hS0 := HP7.out
                refine wpAnyN_take (i := 0) (v := ?v10) rfl (by kernel_rfl) (by kernel_rfl) (by kernel_rfl) (by kernel_rfl) (fun _ _ _ h => h) (Or.inl ⟨by rfl, ?hy10⟩) (by assumption) ?_
                case hy10 => intro w hSw; (try dsimp only at hSw); go_simp; try with_reducible rfl
                simp only [Act.put, List.getElem_toArray, List.getElem_cons_zero, List.setIfInBounds_toArray, List.set_cons_zero, List.set_cons_succ]
                refine wpAnyN_take (i := 1) (v := .string (S a1)) rfl (by kernel_rfl) (by kernel_rfl) (by kernel_rfl) (by kernel_rfl) (fun _ _ _ h => h) (Or.inl ⟨by rfl, ?bz1⟩) (by assumption) ?_
                case bz1 => intro w hSw; have g0 := hSw.cell 0;have gl := hSw.lt;simp at g0; go_simp; try with_reducible rfl
                simp only [Act.put, List.getElem_toArray, List.getElem_cons_zero, List.getElem_cons_succ, List.setIfInBounds_toArray, List.set_cons_zero, List.set_cons_succ]
                refine wpAnyN_take (i := 2) (v := ?v11) rfl (by kernel_rfl) (by kernel_rfl) (by kernel_rfl) (by kernel_rfl) (fun _ _ _ h => h) (Or.inl ⟨by rfl, ?hy11⟩) (by assumption) ?_
                case hy11 => intro w hSw; (try dsimp only at hSw); go_simp; try with_reducible rfl
                simp only [Act.put, List.getElem_toArray, List.getElem_cons_zero, List.getElem_cons_succ, List.setIfInBounds_toArray, List.set_cons_zero, List.set_cons_succ]
                refine wpAnyN_take (i := 3) (v := .int .i64 a2) rfl (by kernel_rfl) (by kernel_rfl) (by kernel_rfl) (by kernel_rfl) (fun _ _ _ h => h) (Or.inl ⟨by rfl, ?bz3⟩) (by assumption) ?_
                case bz3 => intro w hSw; have g0 := hSw.cell 1;have gl := hSw.lt;simp at g0; go_simp; try with_reducible rfl
                simp only [Act.put, List.getElem_toArray, List.getElem_cons_zero, List.getElem_cons_succ, List.setIfInBounds_toArray, List.set_cons_zero, List.set_cons_succ]
                refine wpAnyN_take (i := 4) (v := ?v12) rfl (by kernel_rfl) (by kernel_rfl) (by kernel_rfl) (by kernel_rfl) (fun _ _ _ h => h) (Or.inl ⟨by rfl, ?hy12⟩) (by assumption) ?_
                case hy12 => intro w hSw; (try dsimp only at hSw); go_simp; try with_reducible rfl
                simp only [Act.put, List.getElem_toArray, List.getElem_cons_zero, List.getElem_cons_succ, List.setIfInBounds_toArray, List.set_cons_zero, List.set_cons_succ]
                refine wpAnyN_take (i := 5) (v := .int .i64 a3) rfl (by kernel_rfl) (by kernel_rfl) (by kernel_rfl) (by kernel_rfl) (fun _ _ _ h => h) (Or.inl ⟨by rfl, ?bz5⟩) (by assumption) ?_
                case bz5 => intro w hSw; have g0 := hSw.cell 2;have gl := hSw.lt;simp at g0; go_simp; try with_reducible rfl
                simp only [Act.put, List.getElem_toArray, List.getElem_cons_zero, List.getElem_cons_succ, List.setIfInBounds_toArray, List.set_cons_zero, List.set_cons_succ]
                refine wpAnyN_take (i := 6) (v := ?v13) rfl (by kernel_rfl) (by kernel_rfl) (by kernel_rfl) (by kernel_rfl) (fun _ _ _ h => h) (Or.inl ⟨by rfl, ?hy13⟩) (by assumption) ?_
                case hy13 => intro w hSw; (try dsimp only at hSw); go_simp; try with_reducible rfl
                simp only [Act.put, List.getElem_toArray, List.getElem_cons_zero, List.getElem_cons_succ, List.setIfInBounds_toArray, List.set_cons_zero, List.set_cons_succ]
                obtain ⟨p0, p1, p2, p3, p4, p5⟩ := BoxI.cells HL7.out.ib
                obtain ⟨f0, f1, f2, f3, f4, f5⟩ := BoxI.open_ HL7.out.ib
                have pl := Blk.lt HL7.out.ib
                refine wpAnyN_one (i := 7) (by kernel_rfl) rfl (fun K hK => ?_)
                simp only [List.getElem_toArray, List.getElem_cons_zero, List.getElem_cons_succ]
                go_simp
                obtain ⟨D2, hD2⟩ : ∃ X, Hid (X = D.setCell ⟨b7, 4, none⟩ (.string (S a1))) := ⟨_, rfl⟩
                rw [← hD2.out]
                have HL8 := Lib.hid (show Ti2 w D2 base r0 g cap b5 b7 q op { y with nm := S a1 } by rw [hD2.out]; exact HL7.out.put (BoxI.setNm HL7.out.ib _))
                have hS2 : Blk D2 b10 23 #[.string (S a1), .int .i64 a2, .int .i64 a3] := by rw [hD2.out]; exact hS0.far HNE.out _
                refine hK _ _ (fun _ => hS2) ?_
                clear hK hD2 hS0 HP7 HL7
                (try simp only [Act.put, List.setIfInBounds_toArray, List.set_cons_zero, List.set_cons_succ])
                clear p0 p1 p2 p3 p4 p5 f0 f1 f2 f3 f4 f5 pl
                refine wpAnyN_take (i := 8) (v := ?v14) rfl (by kernel_rfl) (by kernel_rfl) (by kernel_rfl) (by kernel_rfl) (fun _ _ _ h => h) (Or.inl ⟨by rfl, ?hy14⟩) (by assumption) ?_
                case hy14 => intro w hSw; (try dsimp only at hSw); go_simp; try with_reducible rfl
                simp only [Act.put, List.getElem_toArray, List.getElem_cons_zero, List.getElem_cons_succ, List.setIfInBounds_toArray, List.set_cons_zero, List.set_cons_succ]
                obtain ⟨p0, p1, p2, p3, p4, p5⟩ := BoxI.cells HL8.out.ib
                obtain ⟨f0, f1, f2, f3, f4, f5⟩ := BoxI.open_ HL8.out.ib
                have pl := Blk.lt HL8.out.ib
                refine wpAnyN_one (i := 9) (by kernel_rfl) rfl (fun K hK => ?_)
                simp only [List.getElem_toArray, List.getElem_cons_zero, List.getElem_cons_succ]
                go_simp
                obtain ⟨D3, hD3⟩ : ∃ X, Hid (X = D2.setCell ⟨b7, 5, none⟩ (.int .i64 a2)) := ⟨_, rfl⟩
                rw [← hD3.out]
                have HL9 := Lib.hid (show Ti2 w D3 base r0 g cap b5 b7 q op { y with nm := S a1, ar := a2 } by rw [hD3.out]; exact HL8.out.put (BoxI.setAr HL8.out.ib _))
                have hS3 : Blk D3 b10 23 #[.string (S a1), .int .i64 a2, .int .i64 a3] := by rw [hD3.out]; exact hS2.far HNE.out _
                refine hK _ _ (fun _ => hS3) ?_
                clear hK hD3 hS2 HL8
                (try simp only [Act.put, List.setIfInBounds_toArray, List.set_cons_zero, List.set_cons_succ])
                clear p0 p1 p2 p3 p4 p5 f0 f1 f2 f3 f4 f5 pl
                refine wpAnyN_take (i := 10) (v := ?v15) rfl (by kernel_rfl) (by kernel_rfl) (by kernel_rfl) (by kernel_rfl) (fun _ _ _ h => h) (Or.inl ⟨by rfl, ?hy15⟩) (by assumption) ?_
                case hy15 => intro w hSw; (try dsimp only at hSw); go_simp; try with_reducible rfl
                simp only [Act.put, List.getElem_toArray, List.getElem_cons_zero, List.getElem_cons_succ, List.setIfInBounds_toArray, List.set_cons_zero, List.set_cons_succ]
                obtain ⟨p0, p1, p2, p3, p4, p5⟩ := BoxI.cells HL9.out.ib
                obtain ⟨f0, f1, f2, f3, f4, f5⟩ := BoxI.open_ HL9.out.ib
                have pl := Blk.lt HL9.out.ib
                refine wpAnyN_one (i := 11) (by kernel_rfl) rfl (fun K hK => ?_)
                simp only [List.getElem_toArray, List.getElem_cons_zero, List.getElem_cons_succ]
                go_simp
                obtain ⟨D4, hD4⟩ : ∃ X, Hid (X = D3.setCell ⟨b7, 3, none⟩ (.int .i64 a3)) := ⟨_, rfl⟩
                rw [← hD4.out]
                have HLA := Lib.hid (show Ti2 w D4 base r0 g cap b5 b7 q op { y with nm := S a1, ar := a2, n := a3 } by rw [hD4.out]; exact HL9.out.put (BoxI.setN HL9.out.ib _))
                have hS4 : Blk D4 b10 23 #[.string (S a1), .int .i64 a2, .int .i64 a3] := by rw [hD4.out]; exact hS3.far HNE.out _
                refine hK _ _ (fun _ => hS4) ?_
                clear hK hD4 hS3 HL9
                (try simp only [Act.put, List.setIfInBounds_toArray, List.set_cons_zero, List.set_cons_succ])
                clear p0 p1 p2 p3 p4 p5 f0 f1 f2 f3 f4 f5 pl
                refine wpAnyN_done (by kernel_rfl) ?_ _
                go_wp2_with fail
                have HFIN := Lib.hid (show tfUp op (q.drop 1) (k + 1) = { y with nm := S a1, ar := a2, n := a3 } by rw [HTF.out, HC.out, ha1.out, ha2.out, ha3.out]; rfl)
                exact ⟨⟨k + 1, by go_num, by omega, Lib.hid (by rw [HFIN.out]; exact HLA.out)⟩, by simp only [intOf]; omega⟩
            · obtain rfl : k = s.size := by omega
              have hlj : decide ((s.size : Int) < (s.size : Int)) = false := decide_eq_false (by omega)
              rw [tf_all (Nat.le_of_eq HFL.out)] at HL
              obtain ⟨x, hx⟩ : ∃ x, Hid (x = tfOf op (q.drop 1)) := ⟨_, rfl⟩
              have HNX := Lib.hid (show inR x.n by rw [hx.out]; exact tf_in _ _)
              rw [← hx.out] at HL HLP
              go_upto_region 27 with fail
              obtain ⟨D, hD⟩ : ∃ X, Hid (X = wr.drew) := ⟨_, rfl⟩
              have HL0 := Lib.hid (show Ti2 w D base r0 g cap b5 b7 q op x by rw [hD.out]; exact HL.out.next (bDrew _))
              refine wp_region_N (fun w' => BoxI w' b7 x) (fun _ => true) (by kernel_rfl) ?_
              rw [← hD.out]
              have hS0 : BoxI D b7 x := HL0.out.ib
              clear hD HL s2 sl
              refine wpAnyN_take (i := 0) (v := x.v) rfl (by kernel_rfl) (by kernel_rfl) (by kernel_rfl) (by kernel_rfl) (fun _ _ _ h => h) (Or.inl ⟨by rfl, ?br0⟩) (by assumption) ?_
              case br0 => intro w hSw; obtain ⟨p0, p1, p2, p3, p4, p5⟩ := BoxI.cells hSw;have pl := Blk.lt hSw; go_simp; try with_reducible rfl
              simp only [Act.put, List.getElem_toArray, List.getElem_cons_zero, List.setIfInBounds_toArray, List.set_cons_zero, List.set_cons_succ]
              refine wpAnyN_take (i := 1) (v := x.v) rfl (by kernel_rfl) (by kernel_rfl) (by kernel_rfl) (by kernel_rfl) (fun _ _ _ h => h) (Or.inl ⟨by rfl, ?br1⟩) (by assumption) ?_
              case br1 => intro w hSw; obtain ⟨p0, p1, p2, p3, p4, p5⟩ := BoxI.cells hSw;have pl := Blk.lt hSw; go_simp; try with_reducible rfl
              simp only [Act.put, List.getElem_toArray, List.getElem_cons_zero, List.getElem_cons_succ, List.setIfInBounds_toArray, List.set_cons_zero, List.set_cons_succ]
              refine wpAnyN_one (i := 2) (by kernel_rfl) rfl (fun K hK => ?_)
              simp only [List.getElem_toArray, List.getElem_cons_zero, List.getElem_cons_succ]
              go_simp
              refine (Formed_any x D).mono ?_
              rintro e w6 ⟨rfl, hb⟩
              have HL1 := Lib.hid (HL0.out.next hb)
              clear hb hS0
              have hS1 : BoxI w6 b7 x := HL1.out.ib
              obtain ⟨t, ht⟩ : ∃ t, Hid (t = fo x) := ⟨_, rfl⟩
              rw [← ht.out]
              refine hK _ _ (fun _ => hS1) ?_
              clear hK
              (try simp only [Act.put, List.setIfInBounds_toArray, List.set_cons_zero, List.set_cons_succ])
              cases t
              · have HQ := Lib.hid (show lineP l = if false = true then some x else none by rw [HLP.out, ← ht.out]; rfl)
                refine wpAnyN_take (i := 3) (v := ?v16) rfl (by kernel_rfl) (by kernel_rfl) (by kernel_rfl) (by kernel_rfl) (fun _ _ _ h => h) (Or.inl ⟨by rfl, ?hy16⟩) (by assumption) ?_
                case hy16 => intro w hSw; (try dsimp only at hSw); go_simp; try with_reducible rfl
                simp only [Act.put, List.getElem_toArray, List.getElem_cons_zero, List.getElem_cons_succ, List.setIfInBounds_toArray, List.set_cons_zero, List.set_cons_succ]
                refine wpAnyN_take (i := 4) (v := undef) rfl (by kernel_rfl) (by kernel_rfl) (by kernel_rfl) (by kernel_rfl) (fun _ _ _ h => h) (Or.inr ⟨by rfl, rfl⟩) (by assumption) ?_
                simp only [Act.put, List.getElem_toArray, List.getElem_cons_zero, List.getElem_cons_succ, List.setIfInBounds_toArray, List.set_cons_zero, List.set_cons_succ]
                refine wpAnyN_take (i := 6) (v := undef) rfl (by kernel_rfl) (by kernel_rfl) (by kernel_rfl) (by kernel_rfl) (fun _ _ _ h => h) (Or.inr ⟨by rfl, rfl⟩) (by assumption) ?_
                simp only [Act.put, List.getElem_toArray, List.getElem_cons_zero, List.getElem_cons_succ, List.setIfInBounds_toArray, List.set_cons_zero, List.set_cons_succ]
                refine wpAnyN_one (i := 5) (by kernel_rfl) rfl (fun K hK => ?_)
                simp only [List.getElem_toArray, List.getElem_cons_zero, List.getElem_cons_succ]
                go_simp
                refine hK _ _ (fun _ => hS1) ?_
                clear hK
                (try simp only [Act.put, List.setIfInBounds_toArray, List.set_cons_zero, List.set_cons_succ])
                refine wpAnyN_take (i := 7) (v := undef) rfl (by kernel_rfl) (by kernel_rfl) (by kernel_rfl) (by kernel_rfl) (fun _ _ _ h => h) (Or.inr ⟨by rfl, rfl⟩) (by assumption) ?_
                simp only [Act.put, List.getElem_toArray, List.getElem_cons_zero, List.getElem_cons_succ, List.setIfInBounds_toArray, List.set_cons_zero, List.set_cons_succ]
                refine wpAnyN_take (i := 8) (v := .bool false) rfl (by kernel_rfl) (by kernel_rfl) (by kernel_rfl) (by kernel_rfl) (fun _ _ _ h => h) (Or.inl ⟨by rfl, ?bs8⟩) (by assumption) ?_
                case bs8 => intro w hSw; skip; go_simp; try with_reducible rfl
                simp only [Act.put, List.getElem_toArray, List.getElem_cons_zero, List.getElem_cons_succ, List.setIfInBounds_toArray, List.set_cons_zero, List.set_cons_succ]
                have HTR := HL1
                obtain ⟨p0, p1, p2, p3, p4, p5⟩ := BoxI.cells HTR.out.tb.rs
                obtain ⟨f0, f1, f2, f3, f4, f5⟩ := BoxI.open_ HTR.out.tb.rs
                have pl := Blk.lt HTR.out.tb.rs
                refine wpAnyN_one (i := 9) (by kernel_rfl) rfl (fun K hK => ?_)
                simp only [List.getElem_toArray, List.getElem_cons_zero, List.getElem_cons_succ]
                go_simp
                obtain ⟨X, hX⟩ : ∃ X, Hid (X = (((((w6.setCell ⟨r0, 0, none⟩ (.int .i64 x.op)).setCell ⟨r0, 1, none⟩ (.int .i64 x.r)).setCell ⟨r0, 2, none⟩ (.int .i64 x.a)).setCell ⟨r0, 3, none⟩ (.int .i64 x.n)).setCell ⟨r0, 4, none⟩ (.string x.nm)).setCell ⟨r0, 5, none⟩ (.int .i64 x.ar)) := ⟨_, rfl⟩
                rw [← hX.out]
                have HXR := Lib.hid (show BoxI X r0 x by
                  rw [hX.out]
                  exact (((((Blk.set_ HTR.out.tb.rs 0 (.int .i64 x.op)).set_ 1 (.int .i64 x.r)).set_ 2 (.int .i64 x.a)).set_ 3 (.int .i64 x.n)).set_ 4 (.string x.nm)).set_ 5 (.int .i64 x.ar))
                have HXK := Lib.hid (show Below w.heap.size w X by
                  have hh := HTR.out.tb.pl.1
                  rw [hX.out]
                  exact (((((HTR.out.tb.kp.setCell hh _).setCell hh _).setCell hh _).setCell hh _).setCell hh _).setCell hh _)
                have hS9 : BoxI X b7 x := by
                  have hh : b7 ≠ r0 := by have h1 := HTR.out.lt; have h2 := HTR.out.tb.pl; omega
                  rw [hX.out]
                  exact (((((Blk.far HTR.out.ib (by exact hh) _).far (by exact hh) _).far (by exact hh) _).far (by exact hh) _).far (by exact hh) _).far (by exact hh) _
                refine hK _ _ (fun _ => hS9) ?_
                clear hK hS1
                (try simp only [Act.put, List.setIfInBounds_toArray, List.set_cons_zero, List.set_cons_succ])
                clear p0 p1 p2 p3 p4 p5 f0 f1 f2 f3 f4 f5 pl
                refine wpAnyN_one (i := 10) (by kernel_rfl) rfl (fun K hK => ?_)
                simp only [List.getElem_toArray, List.getElem_cons_zero, List.getElem_cons_succ]
                go_simp
                refine hK _ _ (fun _ => hS9) ?_
                clear hK
                (try simp only [Act.put, List.setIfInBounds_toArray, List.set_cons_zero, List.set_cons_succ])
                refine wpAnyN_done (by kernel_rfl) ?_ _
                obtain ⟨p0, p1, p2, p3, p4, p5⟩ := BoxI.cells HXR.out
                obtain ⟨f0, f1, f2, f3, f4, f5⟩ := BoxI.open_ HXR.out
                have pl := Blk.lt HXR.out
                go_wp2_with fail
                refine bodyPost_ret (v := .tuple #[x.v, .bool false]) (by simp only [results, Tryz.results61]; go_simp) rfl ?_
                exact ⟨x, false, rfl, HQ.out, HXK.out⟩
              · obtain ⟨u, hu⟩ : ∃ u, ((S (lineL x)).toList == (S l).toList) = u := ⟨_, rfl⟩
                have HQ := Lib.hid (show lineP l = if u = true then some x else none by
                  rw [HLP.out, ← ht.out, ← hu, ByteArray.toList_eq, ByteArray.toList_eq, S_list, S_list]
                  rfl)
                refine wpAnyN_take (i := 3) (v := ?v17) rfl (by kernel_rfl) (by kernel_rfl) (by kernel_rfl) (by kernel_rfl) (fun _ _ _ h => h) (Or.inl ⟨by rfl, ?hy17⟩) (by assumption) ?_
                case hy17 => intro w hSw; (try dsimp only at hSw); go_simp; try with_reducible rfl
                simp only [Act.put, List.getElem_toArray, List.getElem_cons_zero, List.getElem_cons_succ, List.setIfInBounds_toArray, List.set_cons_zero, List.set_cons_succ]
                refine wpAnyN_take (i := 4) (v := x.v) rfl (by kernel_rfl) (by kernel_rfl) (by kernel_rfl) (by kernel_rfl) (fun _ _ _ h => h) (Or.inl ⟨by rfl, ?bt4⟩) (by assumption) ?_
                case bt4 => intro w hSw; obtain ⟨p0, p1, p2, p3, p4, p5⟩ := BoxI.cells hSw;have pl := Blk.lt hSw; go_simp; try with_reducible rfl
                simp only [Act.put, List.getElem_toArray, List.getElem_cons_zero, List.getElem_cons_succ, List.setIfInBounds_toArray, List.set_cons_zero, List.set_cons_succ]
                refine wpAnyN_take (i := 6) (v := ?v18) rfl (by kernel_rfl) (by kernel_rfl) (by kernel_rfl) (by kernel_rfl) (fun _ _ _ h => h) (Or.inl ⟨by rfl, ?hy18⟩) (by assumption) ?_
                case hy18 => intro w hSw; (try dsimp only at hSw); go_simp; try with_reducible rfl
                simp only [Act.put, List.getElem_toArray, List.getElem_cons_zero, List.getElem_cons_succ, List.setIfInBounds_toArray, List.set_cons_zero, List.set_cons_succ]
                refine wpAnyN_one (i := 5) (by kernel_rfl) rfl (fun K hK => ?_)
                simp only [List.getElem_toArray, List.getElem_cons_zero, List.getElem_cons_succ]
                go_simp
                refine (Line_any x w6 ht.out.symm HNX.out).mono ?_
                rintro e w7 ⟨rfl, hb7⟩
                have HL2 := Lib.hid (HL1.out.next hb7)
                clear hb7 HL1
                have HL1 := HL2
                have hS2 : BoxI w7 b7 x := HL2.out.ib
                refine hK _ _ (fun _ => hS2) ?_
                clear hK
                (try simp only [Act.put, List.setIfInBounds_toArray, List.set_cons_zero, List.set_cons_succ])
                refine wpAnyN_take (i := 7) (v := .bool u) rfl (by kernel_rfl) (by kernel_rfl) (by kernel_rfl) (by kernel_rfl) (fun _ _ _ h => h) (Or.inl ⟨by rfl, ?bt7⟩) (by assumption) ?_
                case bt7 => intro w hSw; skip; go_simp; try with_reducible rfl
                simp only [Act.put, List.getElem_toArray, List.getElem_cons_zero, List.getElem_cons_succ, List.setIfInBounds_toArray, List.set_cons_zero, List.set_cons_succ]
                refine wpAnyN_take (i := 8) (v := .bool u) rfl (by kernel_rfl) (by kernel_rfl) (by kernel_rfl) (by kernel_rfl) (fun _ _ _ h => h) (Or.inl ⟨by rfl, ?bt8⟩) (by assumption) ?_
                case bt8 => intro w hSw; skip; go_simp; try with_reducible rfl
                simp only [Act.put, List.getElem_toArray, List.getElem_cons_zero, List.getElem_cons_succ, List.setIfInBounds_toArray, List.set_cons_zero, List.set_cons_succ]
                clear hS1
                have hS1 := hS2
                have HTR := HL1
                obtain ⟨p0, p1, p2, p3, p4, p5⟩ := BoxI.cells HTR.out.tb.rs
                obtain ⟨f0, f1, f2, f3, f4, f5⟩ := BoxI.open_ HTR.out.tb.rs
                have pl := Blk.lt HTR.out.tb.rs
                refine wpAnyN_one (i := 9) (by kernel_rfl) rfl (fun K hK => ?_)
                simp only [List.getElem_toArray, List.getElem_cons_zero, List.getElem_cons_succ]
                go_simp
                obtain ⟨X, hX⟩ : ∃ X, Hid (X = (((((w7.setCell ⟨r0, 0, none⟩ (.int .i64 x.op)).setCell ⟨r0, 1, none⟩ (.int .i64 x.r)).setCell ⟨r0, 2, none⟩ (.int .i64 x.a)).setCell ⟨r0, 3, none⟩ (.int .i64 x.n)).setCell ⟨r0, 4, none⟩ (.string x.nm)).setCell ⟨r0, 5, none⟩ (.int .i64 x.ar)) := ⟨_, rfl⟩
                rw [← hX.out]
                have HXR := Lib.hid (show BoxI X r0 x by
                  rw [hX.out]
                  exact (((((Blk.set_ HTR.out.tb.rs 0 (.int .i64 x.op)).set_ 1 (.int .i64 x.r)).set_ 2 (.int .i64 x.a)).set_ 3 (.int .i64 x.n)).set_ 4 (.string x.nm)).set_ 5 (.int .i64 x.ar))
                have HXK := Lib.hid (show Below w.heap.size w X by
                  have hh := HTR.out.tb.pl.1
                  rw [hX.out]
                  exact (((((HTR.out.tb.kp.setCell hh _).setCell hh _).setCell hh _).setCell hh _).setCell hh _).setCell hh _)
                have hS9 : BoxI X b7 x := by
                  have hh : b7 ≠ r0 := by have h1 := HTR.out.lt; have h2 := HTR.out.tb.pl; omega
                  rw [hX.out]
                  exact (((((Blk.far HTR.out.ib (by exact hh) _).far (by exact hh) _).far (by exact hh) _).far (by exact hh) _).far (by exact hh) _).far (by exact hh) _
                refine hK _ _ (fun _ => hS9) ?_
                clear hK hS1
                (try simp only [Act.put, List.setIfInBounds_toArray, List.set_cons_zero, List.set_cons_succ])
                clear p0 p1 p2 p3 p4 p5 f0 f1 f2 f3 f4 f5 pl
                refine wpAnyN_one (i := 10) (by kernel_rfl) rfl (fun K hK => ?_)
                simp only [List.getElem_toArray, List.getElem_cons_zero, List.getElem_cons_succ]
                go_simp
                refine hK _ _ (fun _ => hS9) ?_
                clear hK
                (try simp only [Act.put, List.setIfInBounds_toArray, List.set_cons_zero, List.set_cons_succ])
                refine wpAnyN_done (by kernel_rfl) ?_ _
                obtain ⟨p0, p1, p2, p3, p4, p5⟩ := BoxI.cells HXR.out
                obtain ⟨f0, f1, f2, f3, f4, f5⟩ := BoxI.open_ HXR.out
                have pl := Blk.lt HXR.out
                go_wp2_with fail
                refine bodyPost_ret (v := .tuple #[x.v, .bool u]) (by simp only [results, Tryz.results61]; go_simp) rfl ?_
                exact ⟨x, u, rfl, HQ.out, HXK.out⟩
      · have HQ := Lib.hid (show lineP l = none by
          have e : tiP l = (zeroI, false) := by
            unfold tiP
            rw [← hq.out, ← hp0.out, ← hop.out]
            exact if_pos (.inl (by simpa using ht))
          rw [HTI.out, e]
          rfl)
        obtain ⟨p0, p1, p2, p3, p4, p5⟩ := BoxI.cells HT4.out.rs
        obtain ⟨f0, f1, f2, f3, f4, f5⟩ := BoxI.open_ HT4.out.rs
        have pl := Blk.lt HT4.out.rs
        go_wp2_with fail
        obtain ⟨X, hX⟩ : ∃ X, Hid (X = (((((w4.setCell ⟨r0, 0, none⟩ (.int .i64 0)).setCell ⟨r0, 1, none⟩ (.int .i64 0)).setCell ⟨r0, 2, none⟩ (.int .i64 0)).setCell ⟨r0, 3, none⟩ (.int .i64 0)).setCell ⟨r0, 4, none⟩ (.string ⟨#[]⟩)).setCell ⟨r0, 5, none⟩ (.int .i64 0)) := ⟨_, rfl⟩
        rw [← hX.out]
        have HXR := Lib.hid (show BoxI X r0 zIn by
          rw [hX.out]
          exact (((((Blk.set_ HT4.out.rs 0 (.int .i64 0)).set_ 1 (.int .i64 0)).set_ 2 (.int .i64 0)).set_ 3 (.int .i64 0)).set_ 4 (.string ⟨#[]⟩)).set_ 5 (.int .i64 0))
        have HXK := Lib.hid (show Below w.heap.size w X by
          have hh := HT4.out.pl.1
          rw [hX.out]
          exact (((((HT4.out.kp.setCell hh _).setCell hh _).setCell hh _).setCell hh _).setCell hh _).setCell hh _)
        clear p0 p1 p2 p3 p4 p5 f0 f1 f2 f3 f4 f5 pl
        obtain ⟨p0, p1, p2, p3, p4, p5⟩ := BoxI.cells HXR.out
        obtain ⟨f0, f1, f2, f3, f4, f5⟩ := BoxI.open_ HXR.out
        have pl := Blk.lt HXR.out
        refine bodyPost_ret (v := .tuple #[zIn.v, .bool false]) (by simp only [results, Tryz.results61]; go_simp) rfl ?_
        exact ⟨zIn, false, rfl, HQ.out, HXK.out⟩
end Go.Proofs.YtbipeakinmbdiaaGreatDoor
