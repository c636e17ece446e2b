/-
  The walks of two and nearer, and of the law IntsDivides.
-/
import Derived.Test.YtcnbaioecoaopaaDoorAs
import Derived.Outline
namespace Go.Proofs.YtcnbaioecoaopaaDoor
open Go.RowKit
theorem ret_two {a b : Int} {c d : Bool} (h : a = b) (h2 : c = d) : Ending.returned (.tuple #[.int .i64 a, .bool c]) = .returned (.tuple #[.int .i64 b, .bool d]) := by rw [h, h2]
theorem two_any (x : ByteArray) (a b : Int) (ha : inR a) (hb : inR b) {r1 r2 : Int} (hr : binS x a b = (r1, r2)) (w : World) : Calls Tryd.prog 24 #[.string x, .int .i64 a, .int .i64 b] w fun e w' => e = .returned (.tuple #[.int .i64 r1, .bool (r2 == 0)]) ∧ Below w.heap.size w w' := by
  have HA := Lib.hid ha
  have HB := Lib.hid hb
  have HR := Lib.hid hr
  clear ha hb hr
  go_enter Tryd.func24, Tryd.ntmps24
  go_wp2_with fail
  refine (Binary_any x a b HA.out HB.out _).mono ?_
  rintro e w1 ⟨rfl, hl⟩
  rw [HR.out, pair]
  have HL := Lib.hid hl
  clear hl
  go_wp2_with fail
  go_ret2
  exact ⟨rfl, HL.out⟩
theorem near_any (r b : Int) (hr : inR r) (hb : inR b) (h : r.natAbs < b.natAbs) (w : World) : Calls Tryd.prog 25 #[.int .i64 r, .int .i64 b] w fun e w' => e = .returned (.bool true) ∧ w = w' := by
  unfold inR at hr hb
  by_cases h1 : b < 0
  · have h2 : b < r := by omega
    by_cases h3 : r ≤ 0
    · clear h
      go_enter Tryd.func25, Tryd.ntmps25
      go_wp2
      go_ret
      exact ⟨rfl, rfl⟩
    · have h4 : b < -r := by omega
      have h5 : 0 < r := by omega
      clear h h3
      go_enter Tryd.func25, Tryd.ntmps25
      go_wp2
      go_ret
      exact ⟨rfl, rfl⟩
  · have h2 : r < b := by omega
    by_cases h3 : 0 ≤ r
    · clear h
      go_enter Tryd.func25, Tryd.ntmps25
      go_wp2
      go_ret
      exact ⟨rfl, rfl⟩
    · have h4 : -b < r := by omega
      have h5 : r < 0 := by omega
      have h6 : 0 ≤ b := by omega
      clear h h3 h1
      go_enter Tryd.func25, Tryd.ntmps25
      go_wp2
      go_ret
      exact ⟨rfl, rfl⟩
def nQ : ByteArray := ⟨#[47, 47]⟩
def nR : ByteArray := ⟨#[114, 101, 109]⟩
def nD : ByteArray := ⟨#[100, 105, 118]⟩
def nM : ByteArray := ⟨#[109, 111, 100]⟩
theorem bin_q (a b : Int) : binS nQ a b = quo a b := by simp [binS, eqS_data, nQ]
theorem bin_r (a b : Int) : binS nR a b = rmd a b := by simp [binS, eqS_data, nR]
theorem bin_d (a b : Int) : binS nD a b = flr a b := by simp [binS, eqS_data, nD]
theorem bin_m (a b : Int) : binS nM a b = mdl a b := by simp [binS, eqS_data, nM]
theorem sign_of {r a : Int} (h : r = 0 ∨ (r < 0 ∧ a < 0) ∨ (0 < r ∧ 0 ≤ a)) : (r != 0) = false ∨ ((r != 0) = true ∧ decide (r < 0) = true ∧ decide (a < 0) = true) ∨ ((r != 0) = true ∧ decide (r < 0) = false ∧ decide (a < 0) = false) := by
  rcases h with h | ⟨h, h'⟩ | ⟨h, h'⟩
  · left; simpa using h
  · right; left; refine ⟨?_, by simpa using h, by simpa using h'⟩; rw [bne_iff_ne]; omega
  · right; right; refine ⟨?_, by simp; omega, by simpa using h'⟩; rw [bne_iff_ne]; omega
theorem div_zero (a : Int) (ha : inR a) (w : World) (ht : pow10At w) : Calls Tryd.prog 7 #[.int .i64 a, .int .i64 0] w fun e w' => e = .returned (.bool true) ∧ Below w.heap.size w w' := by
  obtain ⟨b, hbz⟩ : ∃ b : Int, b = 0 := ⟨_, rfl⟩
  have HT := Lib.hid ht
  have HA := Lib.hid ha
  have HBB := Lib.hid (show inR 0 by decide)
  have H1 := Lib.hid (show binS nQ a 0 = (0, 11) by rw [bin_q]; rfl)
  have H2 := Lib.hid (show binS nR a 0 = (0, 11) by rw [bin_r]; rfl)
  have H3 := Lib.hid (show binS nD a 0 = (0, 11) by rw [bin_d]; rfl)
  have H4 := Lib.hid (show binS nM a 0 = (0, 11) by rw [bin_m]; rfl)
  clear ht ha hbz
  go_enter Tryd.func7, Tryd.ntmps7
  go_wp2_with fail
  refine (example_any _ HT.out).mono ?_
  rintro e v ⟨rfl, hb⟩
  have HB := Lib.hid hb
  clear hb
  go_wp2_with fail
  refine (two_any nQ a 0 HA.out HBB.out H1.out _).mono ?_
  rintro e v0 ⟨rfl, hb⟩
  have HB := Lib.hid (HB.out.trans (hb.mono HB.out.size))
  clear hb
  go_wp2_with fail
  refine (two_any nR a 0 HA.out HBB.out H2.out _).mono ?_
  rintro e v1 ⟨rfl, hb⟩
  have HB := Lib.hid (HB.out.trans (hb.mono HB.out.size))
  clear hb
  go_wp2_with fail
  refine (two_any nD a 0 HA.out HBB.out H3.out _).mono ?_
  rintro e v2 ⟨rfl, hb⟩
  have HB := Lib.hid (HB.out.trans (hb.mono HB.out.size))
  clear hb
  go_wp2_with fail
  refine (two_any nM a 0 HA.out HBB.out H4.out _).mono ?_
  rintro e v3 ⟨rfl, hb⟩
  have HB := Lib.hid (HB.out.trans (hb.mono HB.out.size))
  clear hb
  go_wp2_with fail
  go_ret
  exact ⟨rfl, HB.out⟩
set_option maxRecDepth 100000 in
theorem div_least (w : World) (ht : pow10At w) : Calls Tryd.prog 7 #[.int .i64 (-9223372036854775808), .int .i64 (-1)] w fun e w' => e = .returned (.bool true) ∧ Below w.heap.size w w' := by
  have HT := Lib.hid ht
  have HA := Lib.hid (show inR (-9223372036854775808) by decide)
  have HBB := Lib.hid (show inR (-1) by decide)
  have H1 := Lib.hid (show binS nQ (-9223372036854775808) (-1) = (0, 10) by rw [bin_q]; rfl)
  have H2 := Lib.hid (show binS nR (-9223372036854775808) (-1) = (0, 0) by rw [bin_r]; rfl)
  have H3 := Lib.hid (show binS nD (-9223372036854775808) (-1) = (0, 10) by rw [bin_d]; rfl)
  have H4 := Lib.hid (show binS nM (-9223372036854775808) (-1) = (0, 0) by rw [bin_m]; rfl)
  clear ht
  go_enter Tryd.func7, Tryd.ntmps7
  go_wp2_with fail
  refine (example_any _ HT.out).mono ?_
  rintro e v ⟨rfl, hb⟩
  have HB := Lib.hid hb
  clear hb
  go_wp2_with fail
  refine (two_any nQ (-9223372036854775808) (-1) HA.out HBB.out H1.out _).mono ?_
  rintro e v0 ⟨rfl, hb⟩
  have HB := Lib.hid (HB.out.trans (hb.mono HB.out.size))
  clear hb
  go_wp2_with fail
  refine (two_any nR (-9223372036854775808) (-1) HA.out HBB.out H2.out _).mono ?_
  rintro e v1 ⟨rfl, hb⟩
  have HB := Lib.hid (HB.out.trans (hb.mono HB.out.size))
  clear hb
  go_wp2_with fail
  refine (two_any nD (-9223372036854775808) (-1) HA.out HBB.out H3.out _).mono ?_
  rintro e v2 ⟨rfl, hb⟩
  have HB := Lib.hid (HB.out.trans (hb.mono HB.out.size))
  clear hb
  go_wp2_with fail
  refine (two_any nM (-9223372036854775808) (-1) HA.out HBB.out H4.out _).mono ?_
  rintro e v3 ⟨rfl, hb⟩
  have HB := Lib.hid (HB.out.trans (hb.mono HB.out.size))
  clear hb
  go_wp2_with fail
  refine (near_any 0 (-1) (by decide) (by decide) (by decide) _).mono ?_
  rintro e v4 ⟨rfl, rfl⟩
  go_wp2_with fail
  refine (near_any 0 (-1) (by decide) (by decide) (by decide) _).mono ?_
  rintro e v5 ⟨rfl, rfl⟩
  go_wp2_with fail
  go_ret
  exact ⟨rfl, HB.out⟩
set_option maxHeartbeats 1000000 in
theorem div_main (a b q r d m : Int) (ha : inR a) (hb : inR b) (h0 : b ≠ 0) (hl : ¬ (a = -9223372036854775808 ∧ b = -1))
    (H1 : Hid (binS nQ a b = (q, 0))) (H2 : Hid (binS nR a b = (r, 0))) (H3 : Hid (binS nD a b = (d, 0))) (H4 : Hid (binS nM a b = (m, 0)))
    (h1 : wrap64 (wrap64 (q * b) + r) = a) (h2 : wrap64 (wrap64 (d * b) + m) = a)
    (HN1 : Hid (inR r ∧ r.natAbs < b.natAbs)) (HN2 : Hid (inR m ∧ m.natAbs < b.natAbs))
    (hs1 : r = 0 ∨ (r < 0 ∧ a < 0) ∨ (0 < r ∧ 0 ≤ a)) (hs2 : m = 0 ∨ (m < 0 ∧ b < 0) ∨ (0 < m ∧ 0 ≤ b))
    (w : World) (ht : pow10At w) : Calls Tryd.prog 7 #[.int .i64 a, .int .i64 b] w fun e w' => e = .returned (.bool true) ∧ Below w.heap.size w w' := by
  have HT := Lib.hid ht
  have HA := Lib.hid ha
  have HBB := Lib.hid hb
  have b0 : (b == 0) = false := by simpa using h0
  have k1 : (wrap64 (wrap64 (q * b) + r) != a) = false := by simpa using h1
  have k2 : (wrap64 (wrap64 (d * b) + m) != a) = false := by simpa using h2
  have HS1 := Lib.hid hs1
  have HS2 := Lib.hid hs2
  have HL := Lib.hid hl
  clear ht ha hb h0 h1 h2 hs1 hs2 hl
  go_enter Tryd.func7, Tryd.ntmps7
  go_wp2_with fail
  refine (example_any _ HT.out).mono ?_
  rintro e v ⟨rfl, hb⟩
  have HB := Lib.hid hb
  clear hb
  go_wp2_with fail
  refine (two_any nQ a b HA.out HBB.out H1.out _).mono ?_
  rintro e v0 ⟨rfl, hb⟩
  have HB := Lib.hid (HB.out.trans (hb.mono HB.out.size))
  clear hb
  go_wp2_with fail
  refine (two_any nR a b HA.out HBB.out H2.out _).mono ?_
  rintro e v1 ⟨rfl, hb⟩
  have HB := Lib.hid (HB.out.trans (hb.mono HB.out.size))
  clear hb
  go_wp2_with fail
  refine (two_any nD a b HA.out HBB.out H3.out _).mono ?_
  rintro e v2 ⟨rfl, hb⟩
  have HB := Lib.hid (HB.out.trans (hb.mono HB.out.size))
  clear hb
  go_wp2_with fail
  refine (two_any nM a b HA.out HBB.out H4.out _).mono ?_
  rintro e v3 ⟨rfl, hb⟩
  have HB := Lib.hid (HB.out.trans (hb.mono HB.out.size))
  clear hb
  have g1 : (a == -9223372036854775808) = true ∧ (b == -1) = false ∨ (a == -9223372036854775808) = false := by
    have := HL.out
    by_cases h : a = -9223372036854775808
    · exact .inl ⟨by simpa using h, by simpa using fun e => this ⟨h, e⟩⟩
    · exact .inr (by simpa using h)
  have g2 : (r != 0) = false ∨ ((r != 0) = true ∧ decide (r < 0) = true ∧ decide (a < 0) = true) ∨ ((r != 0) = true ∧ decide (r < 0) = false ∧ decide (a < 0) = false) := sign_of HS1.out
  have g3 : (m != 0) = false ∨ ((m != 0) = true ∧ decide (m < 0) = true ∧ decide (b < 0) = true) ∨ ((m != 0) = true ∧ decide (m < 0) = false ∧ decide (b < 0) = false) := sign_of HS2.out
  rcases g1 with ⟨e1, e2⟩ | e1 <;> rcases g2 with f1 | ⟨f1, f2, f3⟩ | ⟨f1, f2, f3⟩ <;> rcases g3 with k3 | ⟨k3, k4, k5⟩ | ⟨k3, k4, k5⟩
  all_goals
    go_wp2_with fail
    refine (near_any r b HN1.out.1 HBB.out HN1.out.2 _).mono ?_
    rintro e v4 ⟨rfl, rfl⟩
    go_wp2_with fail
    refine (near_any m b HN2.out.1 HBB.out HN2.out.2 _).mono ?_
    rintro e v5 ⟨rfl, rfl⟩
    go_wp2_with fail
    go_ret
    exact ⟨rfl, HB.out⟩
theorem law_divides (a b : Int) (ha : inR a) (hb : inR b) (w : World) (ht : pow10At w) : Calls Tryd.prog 7 #[.int .i64 a, .int .i64 b] w fun e w' => e = .returned (.bool true) ∧ Below w.heap.size w w' := by
  by_cases h0 : b = 0
  · subst h0; exact div_zero a ha w ht
  by_cases hl : a = -9223372036854775808 ∧ b = -1
  · obtain ⟨rfl, rfl⟩ := hl; exact div_least w ht
  have hq := tdiv_in ha h0 hl
  have hm := tmod_in (a := a) hb h0
  have e := Int.mul_tdiv_add_tmod a b
  have hc := Int.mul_comm b (a.tdiv b)
  have hn : (a.tmod b).natAbs < b.natAbs := by rw [Int.natAbs_tmod]; exact Nat.mod_lt _ (by omega)
  have hna : (a.tmod b).natAbs ≤ a.natAbs := by rw [Int.natAbs_tmod]; exact Nat.mod_le _ _
  have hs1 : 0 ≤ a → 0 ≤ a.tmod b := fun h => Int.tmod_nonneg b h
  have hs2 : a ≤ 0 → a.tmod b ≤ 0 := fun h => by have := Int.tmod_nonneg (a := -a) b (by omega); rw [Int.neg_tmod] at this; omega
  have ho : off a b ↔ (Int.tmod a b < 0 ∧ 0 < b) ∨ (0 < Int.tmod a b ∧ b < 0) := Iff.rfl
  have hw : ∀ x y : Int, x + y = a → wrap64 (wrap64 x + y) = a := fun x y h => by unfold inR at ha; unfold wrap64; omega
  have hd : (a.tdiv b - (if off a b then 1 else 0)) * b + (a.tmod b + (if off a b then b else 0)) = a := by
    rw [Int.sub_mul]; split
    · rw [Int.one_mul]; omega
    · rw [Int.zero_mul]; omega
  refine div_main a b (a.tdiv b) (a.tmod b) (a.tdiv b - (if off a b then 1 else 0)) (a.tmod b + (if off a b then b else 0)) ha hb h0 hl
    (Lib.hid (by rw [bin_q]; unfold quo; rw [if_neg h0, ovf_in hq])) (Lib.hid (by rw [bin_r]; exact if_neg h0)) (Lib.hid (by rw [bin_d, flr_ok h0 hl])) (Lib.hid (by rw [bin_m]; exact if_neg h0))
    (hw _ _ (by omega)) (hw _ _ hd) (Lib.hid ⟨hm.1, hn⟩) (Lib.hid ⟨hm.2, ?_⟩) (by
      rcases Int.lt_or_le a 0 with h | h
      · have := hs2 (by omega); omega
      · have := hs1 h; omega) ?_ w ht
  · by_cases h : off a b
    · rw [if_pos h]; have := ho.1 h; omega
    · rw [if_neg h]; omega
  · by_cases h : off a b
    · rw [if_pos h]; have := ho.1 h; omega
    · rw [if_neg h]; have h' : ¬ ((Int.tmod a b < 0 ∧ 0 < b) ∨ (0 < Int.tmod a b ∧ b < 0)) := fun h2 => h (ho.2 h2); omega
end Go.Proofs.YtcnbaioecoaopaaDoor
