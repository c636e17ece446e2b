/-
  The walks of Exclusive and the reference's Exclusive.
-/
import Derived.Test.YtpkpdjekoghkcaaWj
namespace Go.Proofs.Ytpkpdjekoghkcaa
open Go.RowKit

def exIx (v : Bool) (x : Ix) : Bool := v && decide (x.rest.length ≤ 1) && x.rows.all (fun r => decide (r.2.length ≤ 1))
theorem exAll_next {l : List (K × List Int)} {q : Nat} {r : K × List Int} (hn : (l.take q).all (fun r => decide (r.2.length ≤ 1)) = true) (hr : l[q]? = some r) (h : r.2.length ≤ 1) : (l.take (q + 1)).all (fun r => decide (r.2.length ≤ 1)) = true := by
  rw [List.take_add_one, hr, List.all_append, hn]; simp [h]
theorem ex_row {v : Bool} {x : Ix} {q : Nat} {r : K × List Int} (hr : x.rows[q]? = some r) (h : ¬ r.2.length ≤ 1) : exIx v x = false := by
  unfold exIx
  have : x.rows.all (fun r => decide (r.2.length ≤ 1)) = false := List.all_eq_false.2 ⟨r, List.mem_of_getElem? hr, by simp; omega⟩
  rw [this, Bool.and_false]
theorem ex_all {x : Ix} {q : Nat} (hn : (x.rows.take q).all (fun r => decide (r.2.length ≤ 1)) = true) (hq : x.rows.length ≤ q) (h : x.rest.length ≤ 1) : exIx true x = true := by
  rw [List.take_of_length_le hq] at hn
  unfold exIx; rw [hn]; simp [h]

set_option maxRecDepth 100000 in
set_option maxHeartbeats 1000000 in
theorem Exclusive_any (u : Value) (x : Ix) (w : World) (hx : IxAt w w.heap.size u x) :
    Calls Try.prog 20 #[u] w fun e w' => e = .returned (.bool (exIx (validIx x) x)) ∧ Below w.heap.size w w' := by
  have hx0 := hx
  obtain ⟨A0, c0, A1, c1, A2, c2, rfl, ha0, ha1, ha2⟩ := hx
  have n0 := ha0.1.2
  have n1 := ha1.1.2
  have n2 := ha2.1.2
  obtain ⟨W, HW⟩ : ∃ W, Hid (W = w.alloc (.cells #[.slice A0 x.all.length c0, .slice A1 x.rows.length c1, .slice A2 x.rest.length c2] 26)) := ⟨_, rfl⟩
  have hWb : Below w.heap.size w W := by rw [HW.out]; exact bAlloc _ _
  have hbox : Blk W w.heap.size 26 #[.slice A0 x.all.length c0, .slice A1 x.rows.length c1, .slice A2 x.rest.length c2] := by rw [HW.out]; exact Blk.new _ _ _
  go_enter Try.func20, Try.ntmps20
  go_wp2_with fail
  rw [← HW.out]
  refine (Valid_any _ x _ (by exact ((hx0.below hWb).more hWb.size))).mono ?_
  rintro e w1 ⟨rfl, hb1⟩
  cases hv : validIx x
  · go_wp2_with fail
    go_ret
    exact ⟨ret_bool (by unfold exIx; rw [hv]; rfl), bNext hWb hb1⟩
  · have q2 := hbox.below hb1 hbox.lt
    have b1 : w1.cell? ⟨w.heap.size, 1, none⟩ = some (.slice A1 x.rows.length c1) := by rw [q2.cell]; rfl
    have b2 : w1.cell? ⟨w.heap.size, 2, none⟩ = some (.slice A2 x.rest.length c2) := by rw [q2.cell]; rfl
    have HB1 := Lib.hid hb1
    clear hb1 q2
    by_cases hr1 : x.rest.length ≤ 1
    · go_wp2_with fail
      go_loopw [4, 17] (fun _ i wr => ∃ q, q ≤ x.rows.length ∧ i = .int .i64 ((q : Nat) : Int) ∧ Below W.heap.size W wr ∧
          Hid ((x.rows.take q).all (fun r => decide (r.2.length ≤ 1)) = true)) (fun _ i _ => x.rows.length - (intOf i).toNat)
      case atStart => exact ⟨0, by omega, rfl, HB1.out, Lib.hid rfl⟩
      case round =>
        obtain ⟨q, hq, rfl, hb, HN⟩ := hrel
        clear b1 b2
        have hbw : Below w.heap.size w wr := bNext hWb hb
        have q2 := hbox.below hb hbox.lt
        have b1 : wr.cell? ⟨w.heap.size, 1, none⟩ = some (.slice A1 x.rows.length c1) := by rw [q2.cell]; rfl
        have HB := Lib.hid hb
        have HBW := Lib.hid hbw
        by_cases hqt : q < x.rows.length
        · obtain ⟨b, off, r, rfl, hB, hr, hr4, A, c, hr5', hrl⟩ := ha1.at hqt
          obtain ⟨h1, h2, h3, h4⟩ := (hr4.below hB hbw).four
          have hr5 := (hbw.cell (p := ⟨b, off + q * 5 + 4, none⟩) hB).trans hr5'
          clear hr5'
          have zb : b < wr.heap.size := by have := hbw.size; omega
          have nr := hrl.1.2
          have HR := Lib.hid hr
          clear hr hr4 hb hrl q2 hbw
          by_cases hlen : r.2.length ≤ 1
          · go_wp2_with fail
            exact ⟨⟨q + 1, by omega, by go_num, bNext HB.out (bAlloc _ _), Lib.hid (exAll_next HN.out HR.out hlen)⟩, by simp [intOf]; omega⟩
          · go_wp2_with fail
            go_ret
            exact ⟨ret_bool (ex_row HR.out hlen).symm, bNext HBW.out (bAlloc _ _)⟩
        · clear hb hbw q2
          go_wp2_with fail
          go_ret
          exact ⟨ret_bool (by rw [hv]; exact (ex_all HN.out (by omega) hr1).symm), HBW.out⟩
    · go_wp2_with fail
      go_ret
      exact ⟨ret_bool (by unfold exIx; rw [hv]; simp [hr1]), bNext hWb HB1.out⟩

set_option maxRecDepth 100000 in
set_option maxHeartbeats 1000000 in
theorem refExclusive_any (u : Value) (x : Ix) (w : World) (hx : IxAt w w.heap.size u x) :
    Calls Try.prog 21 #[u] w fun e w' => e = .returned (.bool (exIx (refValidIx x) x)) ∧ Below w.heap.size w w' := by
  have hx0 := hx
  obtain ⟨A0, c0, A1, c1, A2, c2, rfl, ha0, ha1, ha2⟩ := hx
  have n0 := ha0.1.2
  have n1 := ha1.1.2
  have n2 := ha2.1.2
  obtain ⟨W, HW⟩ : ∃ W, Hid (W = w.alloc (.cells #[.slice A0 x.all.length c0, .slice A1 x.rows.length c1, .slice A2 x.rest.length c2] 26)) := ⟨_, rfl⟩
  have hWb : Below w.heap.size w W := by rw [HW.out]; exact bAlloc _ _
  have hbox : Blk W w.heap.size 26 #[.slice A0 x.all.length c0, .slice A1 x.rows.length c1, .slice A2 x.rest.length c2] := by rw [HW.out]; exact Blk.new _ _ _
  go_enter Try.func21, Try.ntmps21
  go_wp2_with fail
  rw [← HW.out]
  refine (refValid_any _ x _ (by exact ((hx0.below hWb).more hWb.size))).mono ?_
  rintro e w1 ⟨rfl, hb1⟩
  cases hv : refValidIx x
  · go_wp2_with fail
    go_ret
    exact ⟨ret_bool (by unfold exIx; rw [hv]; rfl), bNext hWb hb1⟩
  · have q2 := hbox.below hb1 hbox.lt
    have b1 : w1.cell? ⟨w.heap.size, 1, none⟩ = some (.slice A1 x.rows.length c1) := by rw [q2.cell]; rfl
    have b2 : w1.cell? ⟨w.heap.size, 2, none⟩ = some (.slice A2 x.rest.length c2) := by rw [q2.cell]; rfl
    have HB1 := Lib.hid hb1
    clear hb1 q2
    by_cases hr1 : x.rest.length ≤ 1
    · go_wp2_with fail
      go_loopw [3] (fun i wr => ∃ q, q ≤ x.rows.length ∧ i = .int .i64 ((q : Nat) : Int) ∧ Below W.heap.size W wr ∧
          Hid ((x.rows.take q).all (fun r => decide (r.2.length ≤ 1)) = true)) (fun i _ => x.rows.length - (intOf i).toNat)
      case atStart => exact ⟨0, by omega, rfl, HB1.out, Lib.hid rfl⟩
      case round =>
        obtain ⟨q, hq, rfl, hb, HN⟩ := hrel
        clear b1 b2
        have hbw : Below w.heap.size w wr := bNext hWb hb
        have q2 := hbox.below hb hbox.lt
        have b1 : wr.cell? ⟨w.heap.size, 1, none⟩ = some (.slice A1 x.rows.length c1) := by rw [q2.cell]; rfl
        have HB := Lib.hid hb
        have HBW := Lib.hid hbw
        by_cases hqt : q < x.rows.length
        · obtain ⟨b, off, r, rfl, hB, hr, hr4, A, c, hr5', hrl⟩ := ha1.at hqt
          obtain ⟨h1, h2, h3, h4⟩ := (hr4.below hB hbw).four
          have hr5 := (hbw.cell (p := ⟨b, off + q * 5 + 4, none⟩) hB).trans hr5'
          clear hr5'
          have zb : b < wr.heap.size := by have := hbw.size; omega
          have nr := hrl.1.2
          have HR := Lib.hid hr
          clear hr hr4 hb hrl q2 hbw
          by_cases hlen : r.2.length ≤ 1
          · go_wp2_with fail
            exact ⟨⟨q + 1, by omega, by go_num, HB.out, Lib.hid (exAll_next HN.out HR.out hlen)⟩, by simp [intOf]; omega⟩
          · go_wp2_with fail
            go_ret
            exact ⟨ret_bool (ex_row HR.out hlen).symm, HBW.out⟩
        · clear hb hbw q2
          go_wp2_with fail
          go_ret
          exact ⟨ret_bool (by rw [hv]; exact (ex_all HN.out (by omega) hr1).symm), HBW.out⟩
    · go_wp2_with fail
      go_ret
      exact ⟨ret_bool (by unfold exIx; rw [hv]; simp [hr1]), bNext hWb HB1.out⟩
end Go.Proofs.Ytpkpdjekoghkcaa
