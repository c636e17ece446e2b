/-
  Walks: same of the index package, by its generic callees.
-/
import Derived.Test.YtpkpdjekoghkcaaWc
namespace Go.Proofs.Ytpkpdjekoghkcaa
open Go.RowKit
def eqR (r s : K × List Int) : Bool := decide (r = s)
theorem eqR_key {r s : K × List Int} (h : eqK r.1.kind r.1.n r.1.name r.1.ar s.1.kind s.1.n s.1.name s.1.ar = false) : eqR r s = false := decide_eq_false (row_key h)
theorem eqR_list {r s : K × List Int} (h : eqK r.1.kind r.1.n r.1.name r.1.ar s.1.kind s.1.n s.1.name s.1.ar = true) : eqR r s = sameL r.2 s.2 := by
  cases h2 : sameL r.2 s.2
  · exact decide_eq_false (row_list h2)
  · exact decide_eq_true (row_eq h h2)

set_option maxHeartbeats 400000 in
theorem row52_any (r s : K × List Int) (A B : Option Addr) (c d : Nat) (w : World) (ha : IntsAt w w.heap.size A r.2.length r.2) (hb : IntsAt w w.heap.size B s.2.length s.2) :
    Calls Try.prog 52 #[.agg #[.int .i64 r.1.kind, .int .i64 r.1.n, .string r.1.name, .int .i64 r.1.ar, .slice A r.2.length c], .agg #[.int .i64 s.1.kind, .int .i64 s.1.n, .string s.1.name, .int .i64 s.1.ar, .slice B s.2.length d]] w
      fun e w' => e = .returned (.bool (eqR r s)) ∧ Below w.heap.size w w' := by
  have he := key_eql
  cases hke : eqK r.1.kind r.1.n r.1.name r.1.ar s.1.kind s.1.n s.1.name s.1.ar
  · go_enter Try.func52, Try.ntmps52
    go_wp2_with fail
    go_ret
    exact ⟨ret_bool (eqR_key hke).symm, bStart (bStart (Below.refl _ _))⟩
  · go_enter Try.func52, Try.ntmps52
    go_wp2_with fail
    have hb2 := fun (o o' : Obj) => bStart (bStart (Below.refl ((w.alloc o).alloc o').heap.size ((w.alloc o).alloc o')))
    refine (equal_any A B _ _ c d r.2 s.2 _ ((ha.below (hb2 _ _)).more (by simp; omega)) ((hb.below (hb2 _ _)).more (by simp; omega))).mono ?_
    rintro e w1 ⟨rfl, q, rfl⟩
    go_wp2_with fail
    go_ret
    exact ⟨ret_bool (eqR_list hke).symm, bDrewN (hb2 _ _) _⟩

/-- lists of rows are equal -/
def sameRs (a b : List (K × List Int)) : Bool := decide (a = b)
theorem sameRs_len {a b : List (K × List Int)} (h : a.length ≠ b.length) : sameRs a b = false := by
  simp only [sameRs, decide_eq_false_iff_not]; rintro rfl; exact h rfl
theorem sameRs_ne {a b : List (K × List Int)} {k : Nat} {x y : K × List Int} (hx : a[k]? = some x) (hy : b[k]? = some y) (h : eqR x y = false) : sameRs a b = false := by
  simp only [sameRs, decide_eq_false_iff_not]; rintro rfl; rw [hx] at hy; exact of_decide_eq_false h (Option.some.inj hy)
theorem sameRs_end {a b : List (K × List Int)} {k n : Nat} (ha : a.length = n) (hb : b.length = n) (h : a.take k = b.take k) (hk : n ≤ k) : sameRs a b = true := by
  rw [List.take_of_length_le (by omega), List.take_of_length_le (by omega)] at h
  simpa [sameRs] using h

set_option maxHeartbeats 1000000 in
theorem equalFunc_any (A B : Option Addr) (n m c d : Nat) (l r : List (K × List Int)) (w : World) (ha : RowsAt w w.heap.size A n l) (hb : RowsAt w w.heap.size B m r) :
    Calls Try.prog 51 #[.slice A n c, .slice B m d, .func (.func 52) #[] #[]] w fun e w' => e = .returned (.bool (sameRs l r)) ∧ Below w.heap.size w w' := by
  have hn := ha.1.2
  have hm := hb.1.2
  by_cases hlr : n = m
  · subst hlr
    go_enter Try.func51, Try.ntmps51
    go_wp2
    go_loopw [6, 7, 8, 9, 17] (fun _ _ _ _ i wr => ∃ k : Nat, k ≤ n ∧ i = .int .i64 k ∧ Below w.heap.size w wr ∧ Hid (l.take k = r.take k)) (fun _ _ _ _ i _ => n - (intOf i).toNat)
    case atStart => exact ⟨0, by omega, rfl, Below.refl _ _, rfl⟩
    case round =>
      obtain ⟨k, hk, rfl, hbr, HT⟩ := hrel
      by_cases hlt : k < n
      · obtain ⟨b, off, x, rfl, hB, hx, hx4, A', c', hx5, hxl⟩ := (ha.below hbr).at hlt
        obtain ⟨b', off', y, rfl, hB', hy, hy4, B', d', hy5, hyl⟩ := (hb.below hbr).at hlt
        obtain ⟨p1, p2, p3, p4⟩ := hx4.four
        obtain ⟨r1, r2, r3, r4⟩ := hy4.four
        have HX := Lib.hid hx
        have HY := Lib.hid hy
        have z := hbr.size
        have zb : b < wr.heap.size := by omega
        have zb' : b' < wr.heap.size := by omega
        have Hbr := Lib.hid hbr
        clear hx hy ha hb hx4 hy4 hbr
        go_wp2_with fail
        have hb2 := fun (o o' : Obj) => bStart (bStart (Below.refl ((wr.alloc o).alloc o').heap.size ((wr.alloc o).alloc o')))
        refine (row52_any x y A' B' c' d' _ ((hxl.more z).below (hb2 _ _) |>.more (by simp; omega)) ((hyl.more z).below (hb2 _ _) |>.more (by simp; omega))).mono ?_
        rintro e w1 ⟨rfl, hb1⟩
        have hb3 := bNext Hbr.out (bStart (bStart hb1))
        have Hb3 := Lib.hid hb3
        clear hb1 hb2 hb3
        cases he : eqR x y
        · go_wp2_with fail
          go_ret
          exact ⟨ret_bool (sameRs_ne HX.out HY.out he).symm, Hb3.out⟩
        · go_wp2_with fail
          exact ⟨⟨k + 1, by omega, by go_num, Hb3.out, take_next HT.out HX.out HY.out (of_decide_eq_true he)⟩, by simp [intOf]; omega⟩
      · go_wp2
        go_ret
        exact ⟨ret_bool (sameRs_end ha.1.1 hb.1.1 HT.out (by omega)).symm, hbr⟩
  · have h0 : (((n : Int)) != (m : Int)) = true := by simp; omega
    go_enter Try.func51, Try.ntmps51
    go_wp2
    go_ret
    exact ⟨ret_bool (sameRs_len (by rw [ha.1.1, hb.1.1]; exact hlr)).symm, Below.refl _ _⟩
theorem sameIx_parts (x y : Ix) : sameIx x y = (sameL x.all y.all && sameL x.rest y.rest && sameRs x.rows y.rows) := by
  obtain ⟨a, b, c⟩ := x
  obtain ⟨a', b', c'⟩ := y
  rw [Bool.eq_iff_iff]
  simp only [sameIx, sameL, sameRs, Bool.and_eq_true, decide_eq_true_eq, Ix.mk.injEq]
  constructor
  · rintro ⟨h1, h2, h3⟩; exact ⟨⟨h1, h3⟩, h2⟩
  · rintro ⟨⟨h1, h2⟩, h3⟩; exact ⟨h1, h3, h2⟩

set_option maxHeartbeats 1000000 in
theorem same37_any (u v : Value) (x y : Ix) (w : World) (hx : IxAt w w.heap.size u x) (hy : IxAt w w.heap.size v y) :
    Calls Try.prog 37 #[u, v] w fun e w' => e = .returned (.bool (sameIx x y)) ∧ Below w.heap.size w w' := by
  obtain ⟨A0, c0, A1, c1, A2, c2, rfl, ha0, ha1, ha2⟩ := hx
  obtain ⟨B0, d0, B1, d1, B2, d2, rfl, hb0, hb1, hb2⟩ := hy
  obtain ⟨W, HW⟩ : ∃ W, Hid (W = (w.alloc (.cells #[.slice A0 x.all.length c0, .slice A1 x.rows.length c1, .slice A2 x.rest.length c2] 26)).alloc (.cells #[.slice B0 y.all.length d0, .slice B1 y.rows.length d1, .slice B2 y.rest.length d2] 26)) := ⟨_, rfl⟩
  have hbW : Below w.heap.size w W := by rw [HW.out]; exact ((Below.refl _ _).alloc (Nat.le_refl _) _).alloc (by simp) _
  have g0 : W.cell? ⟨w.heap.size, 0, none⟩ = some (.slice A0 x.all.length c0) := by rw [HW.out]; simp [go_sem]
  have g1 : W.cell? ⟨w.heap.size, 1, none⟩ = some (.slice A1 x.rows.length c1) := by rw [HW.out]; simp [go_sem]
  have g2 : W.cell? ⟨w.heap.size, 2, none⟩ = some (.slice A2 x.rest.length c2) := by rw [HW.out]; simp [go_sem]
  have k0 : W.cell? ⟨w.heap.size + 1, 0, none⟩ = some (.slice B0 y.all.length d0) := by rw [HW.out]; simp [go_sem]
  have k1 : W.cell? ⟨w.heap.size + 1, 1, none⟩ = some (.slice B1 y.rows.length d1) := by rw [HW.out]; simp [go_sem]
  have k2 : W.cell? ⟨w.heap.size + 1, 2, none⟩ = some (.slice B2 y.rest.length d2) := by rw [HW.out]; simp [go_sem]
  go_enter Try.func37, Try.ntmps37
  go_wp2_with fail
  rw [← HW.out]
  refine (equal_any _ _ _ _ _ _ x.all y.all _ (ha0.below hbW |>.more hbW.size) (hb0.below hbW |>.more hbW.size)).mono ?_
  rintro e w1 ⟨rfl, q1, rfl⟩
  cases hs0 : sameL x.all y.all
  · go_wp2_with fail
    go_ret
    exact ⟨ret_bool (by rw [sameIx_parts, hs0]; rfl), bDrewN hbW _⟩
  · go_wp2_with fail
    refine (equal_any _ _ _ _ _ _ x.rest y.rest _ ((ha2.below hbW |>.more hbW.size).drewN q1) ((hb2.below hbW |>.more hbW.size).drewN q1)).mono ?_
    rintro e w1 ⟨rfl, q2, rfl⟩
    cases hs1 : sameL x.rest y.rest
    · go_wp2_with fail
      go_ret
      exact ⟨ret_bool (by rw [sameIx_parts, hs0, hs1]; rfl), bDrewN hbW _⟩
    · go_wp2_with fail
      refine (equalFunc_any _ _ _ _ _ _ x.rows y.rows _ ((ha1.below (bDrewN hbW (q1 + q2))).more hbW.size) ((hb1.below (bDrewN hbW (q1 + q2))).more hbW.size)).mono ?_
      rintro e w1 ⟨rfl, hb3⟩
      go_wp2_with fail
      go_ret
      exact ⟨ret_bool (by rw [sameIx_parts, hs0, hs1]; rfl), bNext (bDrewN hbW _) hb3⟩
end Go.Proofs.Ytpkpdjekoghkcaa
