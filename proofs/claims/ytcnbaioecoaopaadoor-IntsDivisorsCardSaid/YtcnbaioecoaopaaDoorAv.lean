/-
  The walks of the laws IntsOrders, IntsBits and IntsDivisors.
-/
import Derived.Test.YtcnbaioecoaopaaDoorAu
namespace Go.Proofs.YtcnbaioecoaopaaDoor
open Go.RowKit
def nMin : ByteArray := ⟨#[109, 105, 110]⟩
def nMax : ByteArray := ⟨#[109, 97, 120]⟩
def nAnd : ByteArray := ⟨#[47, 92]⟩
def nOr : ByteArray := ⟨#[92, 47]⟩
def nXor : ByteArray := ⟨#[120, 111, 114]⟩
def nGcd : ByteArray := ⟨#[103, 99, 100]⟩
def uSign : ByteArray := ⟨#[115, 105, 103, 110]⟩
def uAbs : ByteArray := ⟨#[97, 98, 115]⟩
def uNot : ByteArray := ⟨#[92]⟩
theorem bin_min (a b : Int) : binS nMin a b = (min a b, 0) := by simp [binS, eqS_data, nMin]
theorem bin_max (a b : Int) : binS nMax a b = (max a b, 0) := by simp [binS, eqS_data, nMax]
theorem bin_and (a b : Int) : binS nAnd a b = (bits BinOp.and IntKind.i64 a b, 0) := by simp [binS, eqS_data, nAnd]
theorem bin_or (a b : Int) : binS nOr a b = (bits BinOp.or IntKind.i64 a b, 0) := by simp [binS, eqS_data, nOr]
theorem bin_xor (a b : Int) : binS nXor a b = (bits BinOp.xor IntKind.i64 a b, 0) := by simp [binS, eqS_data, nXor]
theorem bin_gcd (a b : Int) : binS nGcd a b = gcdE a b := by simp [binS, eqS_data, nGcd]
theorem un_sign (a : Int) : unS uSign a = (sgn a, 0) := by simp [unS, eqS_data, uSign]
theorem un_abs (a : Int) : unS uAbs a = absE a := by simp [unS, eqS_data, uAbs]
theorem un_not (a : Int) : unS uNot a = (bits BinOp.xor IntKind.i64 (-1) a, 0) := by simp [unS, eqS_data, uNot]
set_option maxHeartbeats 1000000 in
theorem orders_main (a b lo hi s n f : Int) (ha : inR a) (hb : inR b)
    (H1 : Hid (binS nMin a b = (lo, 0))) (H2 : Hid (binS nMax a b = (hi, 0))) (H3 : Hid (unS uSign a = (s, 0))) (H4 : Hid (unS uAbs a = (n, f)))
    (h1 : decide (hi < lo) = false) (h2 : (lo == a) = true ∧ (hi == b) = true ∨ (lo == a) = false ∧ (lo == b) = true ∧ (hi == a) = true)
    (h3 : decide (s < -1) = false) (h4 : decide (1 < s) = false)
    (h5 : (f != 0) = true ∧ (a == -9223372036854775808) = true ∨ (f != 0) = false ∧ (a == -9223372036854775808) = false ∧ decide (0 ≤ n) = true ∧ (wrap64 (s * n) == a) = true)
    (w : World) (ht : pow10At w) : Calls Tryd.prog 12 #[.int .i64 a, .int .i64 b] w fun e w' => e = .returned (.bool true) ∧ Below w.heap.size w w' := by
  have HT := Lib.hid ht
  have HA := Lib.hid ha
  have HBB := Lib.hid hb
  clear ht ha hb
  go_enter Tryd.func12, Tryd.ntmps12
  go_wp2_with fail
  refine (two_any nMin a b HA.out HBB.out H1.out _).mono ?_
  rintro e v1 ⟨rfl, hb⟩
  have HB := Lib.hid hb
  clear hb
  go_wp2_with fail
  refine (two_any nMax a b HA.out HBB.out H2.out _).mono ?_
  rintro e v2 ⟨rfl, hb⟩
  have HB := Lib.hid (HB.out.trans (hb.mono HB.out.size))
  clear hb
  rcases h2 with ⟨e1, e2⟩ | ⟨e1, e2, e3⟩
  all_goals
    go_wp2_with fail
    refine (Unary_any uSign a HA.out _).mono ?_
    rintro e v3 ⟨rfl, hb⟩
    rw [H3.out, pair]
    have HB := Lib.hid (HB.out.trans (hb.mono HB.out.size))
    clear hb
    go_wp2_with fail
    refine (Unary_any uAbs a HA.out _).mono ?_
    rintro e v4 ⟨rfl, hb⟩
    rw [H4.out, pair]
    have HB := Lib.hid (HB.out.trans (hb.mono HB.out.size))
    clear hb
    rcases h5 with ⟨f1, f2⟩ | ⟨f1, f2, f3, f4⟩
    all_goals
      go_wp2_with fail
      refine (example_any _ (HT.out.below HB.out)).mono ?_
      rintro e v ⟨rfl, hb⟩
      have HB := Lib.hid (HB.out.trans (hb.mono HB.out.size))
      clear hb
      go_wp2_with fail
      go_ret
      exact ⟨rfl, HB.out⟩
theorem law_orders (a b : Int) (ha : inR a) (hb : inR b) (w : World) (ht : pow10At w) : Calls Tryd.prog 12 #[.int .i64 a, .int .i64 b] w fun e w' => e = .returned (.bool true) ∧ Below w.heap.size w w' := by
  have hmm : decide (max a b < min a b) = false := decide_eq_false (by omega)
  have h2 : (min a b == a) = true ∧ (max a b == b) = true ∨ (min a b == a) = false ∧ (min a b == b) = true ∧ (max a b == a) = true := by
    by_cases h : a ≤ b
    · exact .inl ⟨by rw [beq_iff_eq]; omega, by rw [beq_iff_eq]; omega⟩
    · exact .inr ⟨by rw [beq_eq_false_iff_ne]; omega, by rw [beq_iff_eq]; omega, by rw [beq_iff_eq]; omega⟩
  have h3 : decide (sgn a < -1) = false := decide_eq_false (by unfold sgn; split <;> (try split) <;> omega)
  have h4 : decide (1 < sgn a) = false := decide_eq_false (by unfold sgn; split <;> (try split) <;> omega)
  have fin := fun (n f : Int) hf h5 => orders_main a b _ _ _ n f ha hb (Lib.hid (bin_min a b)) (Lib.hid (bin_max a b)) (Lib.hid (un_sign a)) (Lib.hid hf) hmm h2 h3 h4 h5 w ht
  by_cases h : a < 0
  · by_cases hl : a = -9223372036854775808
    · exact fin 0 10 (by rw [un_abs]; unfold absE; rw [if_pos h, ovf_out (by unfold inR; omega)]) (.inl ⟨rfl, by simpa using hl⟩)
    · refine fin (0 - a) 0 (by rw [un_abs]; unfold absE; rw [if_pos h, ovf_in (by unfold inR at *; omega)]) (.inr ⟨rfl, by simpa using hl, decide_eq_true (by omega), ?_⟩)
      have e : sgn a * (0 - a) = a := by unfold sgn; rw [if_pos h]; omega
      rw [e, wrap_in ha]; simp
  · refine fin a 0 (by rw [un_abs]; unfold absE; rw [if_neg h]) (.inr ⟨rfl, by rw [beq_eq_false_iff_ne]; omega, decide_eq_true (by omega), ?_⟩)
    have e : sgn a * a = a := by
      unfold sgn; rw [if_neg h]; split
      · omega
      · omega
    rw [e, wrap_in ha]; simp
theorem bit_cases (x : Nat) : x % 2 = 0 ∨ x % 2 = 1 := by omega
theorem and_two (x y : Nat) : (x &&& y) % 2 = (x % 2) &&& (y % 2) := by have := @Nat.and_mod_two_pow x y 1; simpa using this
theorem or_two (x y : Nat) : (x ||| y) % 2 = (x % 2) ||| (y % 2) := by have := @Nat.or_mod_two_pow x y 1; simpa using this
theorem xor_two (x y : Nat) : (x ^^^ y) % 2 = (x % 2) ^^^ (y % 2) := by have := @Nat.xor_mod_two_pow x y 1; simpa using this
theorem nat_bits (x : Nat) : ∀ y : Nat, (x &&& y) + (x ||| y) = x + y ∧ (x ^^^ y) + (x &&& y) = (x ||| y) := by
  induction x using Nat.strongRecOn with
  | ind x ih =>
    intro y
    by_cases hx : x = 0
    · subst hx; simp
    · have h1 := ih (x / 2) (by omega) (y / 2)
      have a1 : (x &&& y) / 2 = x / 2 &&& y / 2 := Nat.and_div_two
      have o1 : (x ||| y) / 2 = x / 2 ||| y / 2 := Nat.or_div_two
      have x1 : (x ^^^ y) / 2 = x / 2 ^^^ y / 2 := Nat.xor_div_two
      have a2 := and_two x y
      have o2 := or_two x y
      have x2 := xor_two x y
      have k : ∀ i j : Nat, (i = 0 ∨ i = 1) → (j = 0 ∨ j = 1) → (i &&& j) + (i ||| j) = i + j ∧ (i ^^^ j) + (i &&& j) = (i ||| j) := fun i j hi hj => by
        rcases hi with rfl | rfl <;> rcases hj with rfl | rfl <;> decide
      have hk := k (x % 2) (y % 2) (bit_cases x) (bit_cases y)
      rw [← a2, ← o2, ← x2] at hk
      rw [← a1, ← o1, ← x1] at h1
      omega
def U (a : Int) : Nat := (a % 18446744073709551616).toNat
theorem bits_and_eq (a b : Int) : bits BinOp.and IntKind.i64 a b = wrap64 ((U a &&& U b : Nat) : Int) := by
  have h : (BitVec.ofInt 64 a &&& BitVec.ofInt 64 b).toNat = (U a &&& U b) := by rw [BitVec.toNat_and, BitVec.toNat_ofInt, BitVec.toNat_ofInt]; rfl
  show IntKind.i64.wrap ((BitVec.ofInt 64 a &&& BitVec.ofInt 64 b).toNat : Int) = _
  rw [h]; unfold wrap64; rw [IntKind.wrap_i64]
theorem bits_or_eq (a b : Int) : bits BinOp.or IntKind.i64 a b = wrap64 ((U a ||| U b : Nat) : Int) := by
  have h : (BitVec.ofInt 64 a ||| BitVec.ofInt 64 b).toNat = (U a ||| U b) := by rw [BitVec.toNat_or, BitVec.toNat_ofInt, BitVec.toNat_ofInt]; rfl
  show IntKind.i64.wrap ((BitVec.ofInt 64 a ||| BitVec.ofInt 64 b).toNat : Int) = _
  rw [h]; unfold wrap64; rw [IntKind.wrap_i64]
theorem bits_xor_eq (a b : Int) : bits BinOp.xor IntKind.i64 a b = wrap64 ((U a ^^^ U b : Nat) : Int) := by
  have h : (BitVec.ofInt 64 a ^^^ BitVec.ofInt 64 b).toNat = (U a ^^^ U b) := by rw [BitVec.toNat_xor, BitVec.toNat_ofInt, BitVec.toNat_ofInt]; rfl
  show IntKind.i64.wrap ((BitVec.ofInt 64 a ^^^ BitVec.ofInt 64 b).toNat : Int) = _
  rw [h]; unfold wrap64; rw [IntKind.wrap_i64]
theorem nor_eq (a b : Int) : (U (-1 - a) &&& U (-1 - b)) = 18446744073709551615 - (U a ||| U b) := by
  have e : ∀ c : Int, U (-1 - c) = (~~~(BitVec.ofInt 64 c)).toNat := fun c => by
    rw [BitVec.toNat_not, BitVec.toNat_ofInt]
    show (((-1 - c) % 18446744073709551616).toNat) = 18446744073709551616 - 1 - (c % 18446744073709551616).toNat
    omega
  rw [e, e, ← BitVec.toNat_and, ← BitVec.not_or, BitVec.toNat_not, BitVec.toNat_or, BitVec.toNat_ofInt, BitVec.toNat_ofInt]
  rfl
theorem or_lt (a b : Int) : (U a ||| U b) < 18446744073709551616 := by
  have h : ∀ c : Int, U c < 2 ^ 64 := fun c => by unfold U; omega
  exact Nat.or_lt_two_pow (h a) (h b)
set_option maxHeartbeats 1000000 in
theorem bits_main (a b x y z na nb nr : Int) (ha : inR a) (hb : inR b) (hna : inR na) (hnb : inR nb)
    (H1 : Hid (binS nAnd a b = (x, 0))) (H2 : Hid (binS nOr a b = (y, 0))) (H3 : Hid (binS nXor a b = (z, 0))) (H4 : Hid (unS uNot a = (na, 0))) (H5 : Hid (unS uNot b = (nb, 0))) (H6 : Hid (binS nAnd na nb = (nr, 0)))
    (h1 : (wrap64 (x + y) == wrap64 (a + b)) = true) (h2 : (z == wrap64 (y - x)) = true) (h3 : (nr == wrap64 (-1 - y)) = true)
    (w : World) (ht : pow10At w) : Calls Tryd.prog 10 #[.int .i64 a, .int .i64 b] w fun e w' => e = .returned (.bool true) ∧ Below w.heap.size w w' := by
  have HT := Lib.hid ht
  have HA := Lib.hid ha
  have HBB := Lib.hid hb
  have HNA := Lib.hid hna
  have HNB := Lib.hid hnb
  clear ht ha hb hna hnb
  go_enter Tryd.func10, Tryd.ntmps10
  go_wp2_with fail
  refine (two_any nAnd a b HA.out HBB.out H1.out _).mono ?_
  rintro e v1 ⟨rfl, hb⟩
  have HB := Lib.hid hb
  clear hb
  go_wp2_with fail
  refine (two_any nOr a b HA.out HBB.out H2.out _).mono ?_
  rintro e v2 ⟨rfl, hb⟩
  have HB := Lib.hid (HB.out.trans (hb.mono HB.out.size))
  clear hb
  go_wp2_with fail
  refine (two_any nXor a b HA.out HBB.out H3.out _).mono ?_
  rintro e v3 ⟨rfl, hb⟩
  have HB := Lib.hid (HB.out.trans (hb.mono HB.out.size))
  clear hb
  go_wp2_with fail
  refine (Unary_any uNot a HA.out _).mono ?_
  rintro e v4 ⟨rfl, hb⟩
  rw [H4.out, pair]
  have HB := Lib.hid (HB.out.trans (hb.mono HB.out.size))
  clear hb
  go_wp2_with fail
  refine (Unary_any uNot b HBB.out _).mono ?_
  rintro e v5 ⟨rfl, hb⟩
  rw [H5.out, pair]
  have HB := Lib.hid (HB.out.trans (hb.mono HB.out.size))
  clear hb
  go_wp2_with fail
  refine (two_any nAnd na nb HNA.out HNB.out H6.out _).mono ?_
  rintro e v6 ⟨rfl, hb⟩
  have HB := Lib.hid (HB.out.trans (hb.mono HB.out.size))
  clear hb
  go_wp2_with fail
  refine (example_any _ (HT.out.below HB.out)).mono ?_
  rintro e v ⟨rfl, hb⟩
  have HB := Lib.hid (HB.out.trans (hb.mono HB.out.size))
  clear hb
  go_wp2_with fail
  go_ret
  exact ⟨rfl, HB.out⟩
theorem wrap_add (x y : Int) : wrap64 (wrap64 x + wrap64 y) = wrap64 (x + y) := by unfold wrap64; omega
theorem wrap_sub (x y : Int) : wrap64 (wrap64 x - wrap64 y) = wrap64 (x - y) := by unfold wrap64; omega
theorem wrap_mods (x y : Int) : wrap64 (x % 18446744073709551616 + y % 18446744073709551616) = wrap64 (x + y) := by unfold wrap64; omega
theorem wrap_neg (x : Int) : wrap64 (-1 - wrap64 x) = wrap64 (-1 - x) := by unfold wrap64; omega
theorem wrap_top (x : Int) : wrap64 (18446744073709551615 - x) = wrap64 (-1 - x) := by unfold wrap64; omega
theorem law_bits (a b : Int) (ha : inR a) (hb : inR b) (w : World) (ht : pow10At w) : Calls Tryd.prog 10 #[.int .i64 a, .int .i64 b] w fun e w' => e = .returned (.bool true) ∧ Below w.heap.size w w' := by
  have hn := nat_bits (U a) (U b)
  have ho := or_lt a b
  have hA : (U a : Int) = a % 18446744073709551616 := by unfold U; omega
  have hB : (U b : Int) = b % 18446744073709551616 := by unfold U; omega
  have g1 : (wrap64 (bits BinOp.and IntKind.i64 a b + bits BinOp.or IntKind.i64 a b) == wrap64 (a + b)) = true := by
    rw [bits_and_eq, bits_or_eq, beq_iff_eq, wrap_add, ← wrap_mods a b, ← hA, ← hB]
    congr 1
    omega
  have g2 : (bits BinOp.xor IntKind.i64 a b == wrap64 (bits BinOp.or IntKind.i64 a b - bits BinOp.and IntKind.i64 a b)) = true := by
    rw [bits_and_eq, bits_or_eq, bits_xor_eq, beq_iff_eq, wrap_sub]
    congr 1
    omega
  have g3 : (bits BinOp.and IntKind.i64 (-1 - a) (-1 - b) == wrap64 (-1 - bits BinOp.or IntKind.i64 a b)) = true := by
    rw [bits_and_eq, bits_or_eq, nor_eq, beq_iff_eq, wrap_neg, ← wrap_top]
    congr 1
    omega
  exact bits_main a b _ _ _ (-1 - a) (-1 - b) _ ha hb (by unfold inR at *; omega) (by unfold inR at *; omega) (Lib.hid (bin_and a b)) (Lib.hid (bin_or a b)) (Lib.hid (bin_xor a b))
    (Lib.hid (by rw [un_not, not_eq ha])) (Lib.hid (by rw [un_not, not_eq hb])) (Lib.hid (bin_and _ _)) g1 g2 g3 w ht
theorem gcdE_comm (a b : Int) : gcdE a b = gcdE b a := by unfold gcdE; rw [Int.gcd_comm]
set_option maxHeartbeats 1000000 in
theorem divisors_over (a b : Int) (ha : inR a) (hb : inR b) (H1 : Hid (binS nGcd a b = (0, 10))) (H2 : Hid (binS nGcd b a = (0, 10)))
    (h : (a == -9223372036854775808) = true ∨ (a == -9223372036854775808) = false ∧ (b == -9223372036854775808) = true)
    (w : World) (ht : pow10At w) : Calls Tryd.prog 11 #[.int .i64 a, .int .i64 b] w fun e w' => e = .returned (.bool true) ∧ Below w.heap.size w w' := by
  have HT := Lib.hid ht
  have HA := Lib.hid ha
  have HBB := Lib.hid hb
  clear ht ha hb
  go_enter Tryd.func11, Tryd.ntmps11
  go_wp2_with fail
  refine (example_any _ HT.out).mono ?_
  rintro e v ⟨rfl, hb⟩
  have HB := Lib.hid hb
  clear hb
  go_wp2_with fail
  refine (Binary_any nGcd a b HA.out HBB.out _).mono ?_
  rintro e v1 ⟨rfl, hb⟩
  rw [H1.out, pair]
  have HB := Lib.hid (HB.out.trans (hb.mono HB.out.size))
  clear hb
  go_wp2_with fail
  refine (Binary_any nGcd b a HBB.out HA.out _).mono ?_
  rintro e v2 ⟨rfl, hb⟩
  rw [H2.out, pair]
  have HB := Lib.hid (HB.out.trans (hb.mono HB.out.size))
  clear hb
  rcases h with h | ⟨h, h'⟩
  all_goals
    go_wp2_with fail
    go_ret
    exact ⟨rfl, HB.out⟩
set_option maxHeartbeats 1000000 in
theorem divisors_zero (w : World) (ht : pow10At w) : Calls Tryd.prog 11 #[.int .i64 0, .int .i64 0] w fun e w' => e = .returned (.bool true) ∧ Below w.heap.size w w' := by
  have HT := Lib.hid ht
  have HA := Lib.hid (show inR 0 by decide)
  have H1 := Lib.hid (show binS nGcd 0 0 = (0, 0) by rw [bin_gcd]; rfl)
  clear ht
  go_enter Tryd.func11, Tryd.ntmps11
  go_wp2_with fail
  refine (example_any _ HT.out).mono ?_
  rintro e v ⟨rfl, hb⟩
  have HB := Lib.hid hb
  clear hb
  go_wp2_with fail
  refine (Binary_any nGcd 0 0 HA.out HA.out _).mono ?_
  rintro e v1 ⟨rfl, hb⟩
  rw [H1.out, pair]
  have HB := Lib.hid (HB.out.trans (hb.mono HB.out.size))
  clear hb
  go_wp2_with fail
  refine (Binary_any nGcd 0 0 HA.out HA.out _).mono ?_
  rintro e v2 ⟨rfl, hb⟩
  rw [H1.out, pair]
  have HB := Lib.hid (HB.out.trans (hb.mono HB.out.size))
  clear hb
  go_wp2_with fail
  go_ret
  exact ⟨rfl, HB.out⟩
set_option maxHeartbeats 1000000 in
theorem divisors_main (a b g r : Int) (ha : inR a) (hb : inR b) (hg : inR g) (H1 : Hid (binS nGcd a b = (g, 0))) (H2 : Hid (binS nGcd b a = (g, 0)))
    (hp : 0 < g) (hz : (a == 0) = false ∨ (a == 0) = true ∧ (b == 0) = false) (H3 : Hid (binS nR a g = (0, 0))) (H4 : Hid (binS nR b g = (0, 0)))
    (h5 : (b == 0) = true ∨ (b == 0) = false ∧ binS nR a b = (r, 0) ∧ inR r ∧ binS nGcd b r = (g, 0))
    (w : World) (ht : pow10At w) : Calls Tryd.prog 11 #[.int .i64 a, .int .i64 b] w fun e w' => e = .returned (.bool true) ∧ Below w.heap.size w w' := by
  have HT := Lib.hid ht
  have HA := Lib.hid ha
  have HBB := Lib.hid hb
  have HG := Lib.hid hg
  have g0 : (g == 0) = false := by rw [beq_eq_false_iff_ne]; omega
  have g1 : decide (g < 0) = false := decide_eq_false (by omega)
  clear ht ha hb hg
  have H5 := Lib.hid h5
  clear h5
  go_enter Tryd.func11, Tryd.ntmps11
  go_wp2_with fail
  refine (example_any _ HT.out).mono ?_
  rintro e v ⟨rfl, hb⟩
  have HB := Lib.hid hb
  clear hb
  go_wp2_with fail
  refine (Binary_any nGcd a b HA.out HBB.out _).mono ?_
  rintro e v1 ⟨rfl, hb⟩
  rw [H1.out, pair]
  have HB := Lib.hid (HB.out.trans (hb.mono HB.out.size))
  clear hb
  go_wp2_with fail
  refine (Binary_any nGcd b a HBB.out HA.out _).mono ?_
  rintro e v2 ⟨rfl, hb⟩
  rw [H2.out, pair]
  have HB := Lib.hid (HB.out.trans (hb.mono HB.out.size))
  clear hb
  rcases hz with z1 | ⟨z1, z2⟩
  all_goals
    go_wp2_with fail
    refine (two_any nR a g HA.out HG.out H3.out _).mono ?_
    rintro e v3 ⟨rfl, hb⟩
    have HB := Lib.hid (HB.out.trans (hb.mono HB.out.size))
    clear hb
    go_wp2_with fail
    refine (two_any nR b g HBB.out HG.out H4.out _).mono ?_
    rintro e v4 ⟨rfl, hb⟩
    have HB := Lib.hid (HB.out.trans (hb.mono HB.out.size))
    clear hb
    rcases H5.out with k1 | ⟨k1, k2, k3, k4⟩
    · first
      | (exfalso; rw [k1] at z2; cases z2)
      | (go_wp2_with fail; go_ret; exact ⟨rfl, HB.out⟩)
    · have H6 := Lib.hid k2
      have HR := Lib.hid k3
      have H7 := Lib.hid k4
      clear k2 k3 k4
      go_wp2_with fail
      refine (two_any nR a b HA.out HBB.out H6.out _).mono ?_
      rintro e v5 ⟨rfl, hb⟩
      have HB := Lib.hid (HB.out.trans (hb.mono HB.out.size))
      clear hb
      go_wp2_with fail
      refine (two_any nGcd b r HBB.out HR.out H7.out _).mono ?_
      rintro e v6 ⟨rfl, hb⟩
      have HB := Lib.hid (HB.out.trans (hb.mono HB.out.size))
      clear hb
      go_wp2_with fail
      go_ret
      exact ⟨rfl, HB.out⟩
theorem law_divisors (a b : Int) (ha : inR a) (hb : inR b) (w : World) (ht : pow10At w) : Calls Tryd.prog 11 #[.int .i64 a, .int .i64 b] w fun e w' => e = .returned (.bool true) ∧ Below w.heap.size w w' := by
  by_cases hz : a = 0 ∧ b = 0
  · obtain ⟨rfl, rfl⟩ := hz; exact divisors_zero w ht
  have hgp : 0 < Int.gcd a b := Nat.pos_of_ne_zero fun h => hz (by rw [Int.gcd_eq_zero_iff] at h; exact h)
  have hda : (Int.gcd a b : Int) ∣ a := Int.gcd_dvd_left ..
  have hdb : (Int.gcd a b : Int) ∣ b := Int.gcd_dvd_right ..
  by_cases hin : inR (Int.gcd a b : Int)
  · have hE : gcdE a b = ((Int.gcd a b : Int), 0) := ovf_in hin
    have hrem : ∀ c : Int, (Int.gcd a b : Int) ∣ c → binS nR c (Int.gcd a b : Int) = (0, 0) := fun c hc => by
      rw [bin_r]; unfold rmd; rw [if_neg (by omega)]
      rw [Int.tmod_eq_zero_of_dvd hc]
    refine divisors_main a b _ (a.tmod b) ha hb hin (Lib.hid (by rw [bin_gcd, hE])) (Lib.hid (by rw [bin_gcd, gcdE_comm, hE])) (by omega) ?_ (Lib.hid (hrem a hda)) (Lib.hid (hrem b hdb)) ?_ w ht
    · by_cases h : a = 0
      · exact .inr ⟨by simpa using h, by simpa using fun h2 => hz ⟨h, h2⟩⟩
      · exact .inl (by simpa using h)
    · by_cases h : b = 0
      · exact .inl (by simpa using h)
      · refine .inr ⟨by simpa using h, by rw [bin_r]; exact if_neg h, (tmod_in (a := a) hb h).1, ?_⟩
        rw [bin_gcd]; unfold gcdE; rw [gcd_step]; exact hE
  · have hE : gcdE a b = (0, 10) := ovf_out hin
    refine divisors_over a b ha hb (Lib.hid (by rw [bin_gcd, hE])) (Lib.hid (by rw [bin_gcd, gcdE_comm, hE])) ?_ w ht
    have hbig : 9223372036854775807 < (Int.gcd a b : Int) := by unfold inR at hin; omega
    have key : ∀ c : Int, inR c → (Int.gcd a b : Int) ∣ c → c ≠ 0 → c = -9223372036854775808 := fun c hc hd h0 => by
      have := Int.natAbs_dvd_natAbs.2 hd
      have h2 := Nat.le_of_dvd (by omega) this
      unfold inR at hc
      omega
    by_cases h : a = 0
    · exact .inr ⟨by rw [h]; rfl, by simpa using key b hb hdb fun h2 => hz ⟨h, h2⟩⟩
    · exact .inl (by simpa using key a ha hda h)
end Go.Proofs.YtcnbaioecoaopaaDoor
