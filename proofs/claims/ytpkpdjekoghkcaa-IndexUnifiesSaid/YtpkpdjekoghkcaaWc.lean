/-
  Walk: Same of the reference.
-/
import Derived.Test.YtpkpdjekoghkcaaWb
namespace Go.Proofs.Ytpkpdjekoghkcaa
open Go.RowKit
def sameIx (x y : Ix) : Bool := decide (x = y)
theorem sameL_true {a b : List Int} (h : sameL a b = true) : a = b := of_decide_eq_true h
theorem six_all {x y : Ix} (h : sameL x.all y.all = false) : sameIx x y = false := by
  simp only [sameIx, decide_eq_false_iff_not]; rintro rfl; simp [sameL] at h
theorem six_rest {x y : Ix} (h : sameL x.rest y.rest = false) : sameIx x y = false := by
  simp only [sameIx, decide_eq_false_iff_not]; rintro rfl; simp [sameL] at h
theorem six_len {x y : Ix} (h : ¬ x.rows.length = y.rows.length) : sameIx x y = false := by
  simp only [sameIx, decide_eq_false_iff_not]; rintro rfl; exact h rfl
theorem six_row {x y : Ix} {k : Nat} {r s : K × List Int} (hr : x.rows[k]? = some r) (hs : y.rows[k]? = some s) (h : r ≠ s) : sameIx x y = false := by
  simp only [sameIx, decide_eq_false_iff_not]; rintro rfl; rw [hr] at hs; exact h (Option.some.inj hs)
theorem row_key {r s : K × List Int} (h : eqK r.1.kind r.1.n r.1.name r.1.ar s.1.kind s.1.n s.1.name s.1.ar = false) : r ≠ s := by
  rintro rfl; have := (K.eqv_iff r.1 r.1).2 rfl; rw [K.eqv] at this; rw [this] at h; cases h
theorem row_list {r s : K × List Int} (h : sameL r.2 s.2 = false) : r ≠ s := by
  rintro rfl; simp [sameL] at h
theorem row_eq {r s : K × List Int} (h : eqK r.1.kind r.1.n r.1.name r.1.ar s.1.kind s.1.n s.1.name s.1.ar = true) (h2 : sameL r.2 s.2 = true) : r = s :=
  Prod.ext ((K.eqv_iff r.1 s.1).1 h) (sameL_true h2)
theorem six_end {x y : Ix} {k : Nat} (h0 : sameL x.all y.all = true) (h1 : sameL x.rest y.rest = true) (hl : x.rows.length = y.rows.length) (h : x.rows.take k = y.rows.take k) (hk : x.rows.length ≤ k) : sameIx x y = true := by
  rw [List.take_of_length_le hk, List.take_of_length_le (by omega)] at h
  obtain ⟨a, b, c⟩ := x
  obtain ⟨a', b', c'⟩ := y
  simp only [sameIx, decide_eq_true_eq, Ix.mk.injEq]
  exact ⟨sameL_true h0, h, sameL_true h1⟩
theorem bDrew1 {W w1 : World} (h : Below W.heap.size W w1) (n : Nat) : Below W.heap.size W (w1.drewN n) := bDrewN h n

set_option maxHeartbeats 1000000 in
theorem same13_any (u v : Value) (x y : Ix) (w : World) (hx : IxAt w w.heap.size u x) (hy : IxAt w w.heap.size v y) :
    Calls Try.prog 13 #[u, v] w fun e w' => e = .returned (.bool (sameIx x y)) ∧ Below w.heap.size w w' := by
  obtain ⟨A0, c0, A1, c1, A2, c2, rfl, ha0, ha1, ha2⟩ := hx
  obtain ⟨B0, d0, B1, d1, B2, d2, rfl, hb0, hb1, hb2⟩ := hy
  have n0 := ha0.1.2
  have n1 := ha1.1.2
  have n2 := ha2.1.2
  have m0 := hb0.1.2
  have m1 := hb1.1.2
  have m2 := hb2.1.2
  have he := key_neq
  obtain ⟨W, HW⟩ : ∃ W, Hid (W = (w.alloc (.cells #[.slice A0 x.all.length c0, .slice A1 x.rows.length c1, .slice A2 x.rest.length c2] 26)).alloc (.cells #[.slice B0 y.all.length d0, .slice B1 y.rows.length d1, .slice B2 y.rest.length d2] 26)) := ⟨_, rfl⟩
  have hbW : Below w.heap.size w W := by rw [HW.out]; exact ((Below.refl _ _).alloc (Nat.le_refl _) _).alloc (by simp) _
  have g0 : W.cell? ⟨w.heap.size, 0, none⟩ = some (.slice A0 x.all.length c0) := by rw [HW.out]; simp [go_sem]
  have g1 : W.cell? ⟨w.heap.size, 1, none⟩ = some (.slice A1 x.rows.length c1) := by rw [HW.out]; simp [go_sem]
  have g2 : W.cell? ⟨w.heap.size, 2, none⟩ = some (.slice A2 x.rest.length c2) := by rw [HW.out]; simp [go_sem]
  have k0 : W.cell? ⟨w.heap.size + 1, 0, none⟩ = some (.slice B0 y.all.length d0) := by rw [HW.out]; simp [go_sem]
  have k1 : W.cell? ⟨w.heap.size + 1, 1, none⟩ = some (.slice B1 y.rows.length d1) := by rw [HW.out]; simp [go_sem]
  have k2 : W.cell? ⟨w.heap.size + 1, 2, none⟩ = some (.slice B2 y.rest.length d2) := by rw [HW.out]; simp [go_sem]
  have hWs : w.heap.size < W.heap.size ∧ w.heap.size + 1 < W.heap.size := by rw [HW.out]; simp; omega
  go_enter Try.func13, Try.ntmps13
  go_wp2_with fail
  rw [← HW.out]
  refine (sameList_any _ _ _ _ _ _ x.all y.all _ (ha0.below hbW |>.more hbW.size) (hb0.below hbW |>.more hbW.size)).mono ?_
  rintro e w1 ⟨rfl, q1, rfl⟩
  cases hs0 : sameL x.all y.all
  · go_wp2_with fail
    go_ret
    exact ⟨ret_bool (six_all hs0).symm, bDrew1 hbW _⟩
  · go_wp2_with fail
    refine (sameList_any _ _ _ _ _ _ x.rest y.rest _ ((ha2.below hbW |>.more hbW.size).drewN q1) ((hb2.below hbW |>.more hbW.size).drewN q1)).mono ?_
    rintro e w1 ⟨rfl, q2, rfl⟩
    cases hs1 : sameL x.rest y.rest
    · go_wp2_with fail
      go_ret
      exact ⟨ret_bool (six_rest hs1).symm, bDrew1 hbW _⟩
    · by_cases hl : x.rows.length = y.rows.length
      · have h0 : (((x.rows.length : Int)) != (y.rows.length : Int)) = false := by simp [hl]
        have HL := Lib.hid hl
        clear hl
        go_wp2_with fail
        go_loopw [4, 5] (fun _ i wr => ∃ k : Nat, k ≤ x.rows.length ∧ i = .int .i64 k ∧ Below W.heap.size W wr ∧ Hid (x.rows.take k = y.rows.take k)) (fun _ i _ => x.rows.length - (intOf i).toNat)
        case atStart => exact ⟨0, by omega, rfl, bDrewN (Below.refl _ _) _, rfl⟩
        case round =>
          obtain ⟨k, hk, rfl, hbr, HT⟩ := hrel
          have hbwr := bNext hbW hbr
          have g1' : wr.cell? ⟨w.heap.size, 1, none⟩ = some (.slice A1 x.rows.length c1) := (hbr.cell (p := ⟨w.heap.size, 1, none⟩) hWs.1).trans g1
          have k1' : wr.cell? ⟨w.heap.size + 1, 1, none⟩ = some (.slice B1 y.rows.length d1) := (hbr.cell (p := ⟨w.heap.size + 1, 1, none⟩) hWs.2).trans k1
          have z1 := hbwr.size
          by_cases hlt : k < x.rows.length
          · obtain ⟨b, off, r, rfl, hB, hr, hr4, A, c, hr5, hrl⟩ := (ha1.below hbwr).at hlt
            have hlt' : k < y.rows.length := by have := HL.out; omega
            obtain ⟨b', off', s, rfl, hB', hs, hs4, A', c', hs5, hsl⟩ := (hb1.below hbwr).at hlt'
            obtain ⟨p1, p2, p3, p4⟩ := hr4.four
            obtain ⟨r1, r2, r3, r4⟩ := hs4.four
            clear hr4 hs4 ha1 hb1
            have HR := Lib.hid hr
            have HS := Lib.hid hs
            have Hbr := Lib.hid hbr
            clear hr hs hbr hbwr
            cases hke : eqK r.1.kind r.1.n r.1.name r.1.ar s.1.kind s.1.n s.1.name s.1.ar
            · go_wp2_with fail
              go_quiet (fail)
              go_wp2_with fail
              go_ret
              exact ⟨ret_bool (six_row HR.out HS.out (row_key hke)).symm, bDrewN (bNext hbW Hbr.out) _⟩
            · go_wp2_with fail
              go_quiet ((go_at_call 36; exact Calls.quiet_of (sameList_any _ _ _ _ _ _ r.2 s.2 _ ((hrl.more z1).drewN _) ((hsl.more z1).drewN _))))
              cases hls : sameL r.2 s.2
              · go_wp2_with fail
                go_ret
                exact ⟨ret_bool (six_row HR.out HS.out (row_list hls)).symm, bDrewN (bNext hbW Hbr.out) _⟩
              · go_wp2_with fail
                exact ⟨⟨k + 1, by omega, by go_num, bDrewN Hbr.out _, take_next HT.out HR.out HS.out (row_eq hke hls)⟩, by simp [intOf]; omega⟩
          · go_wp2
            go_ret
            exact ⟨ret_bool (six_end hs0 hs1 HL.out HT.out (by omega)).symm, hbwr⟩
      · have h0 : (((x.rows.length : Int)) != (y.rows.length : Int)) = true := by simp; omega
        go_wp2_with fail
        go_ret
        exact ⟨ret_bool (six_len hl).symm, bDrew1 hbW _⟩
end Go.Proofs.Ytpkpdjekoghkcaa
