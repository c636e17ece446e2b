/-
  The walks of the reference's Binary and Unary.
-/
import Derived.Test.YtcnbaioecoaopaaDoorAl
namespace Go.Proofs.YtcnbaioecoaopaaDoor
open Go.RowKit
theorem not_eq {a : Int} (ha : inR a) : bits BinOp.xor IntKind.i64 (-1) a = -1 - a := by
  have h1 : (BitVec.ofInt 64 (-1) ^^^ BitVec.ofInt 64 a).toNat = 18446744073709551615 - (a % 18446744073709551616).toNat := by
    have e : BitVec.ofInt 64 (-1) = BitVec.allOnes 64 := by decide
    rw [e, BitVec.allOnes_xor, BitVec.toNat_not, BitVec.toNat_ofInt]
    rfl
  show IntKind.i64.wrap ((BitVec.ofInt 64 (-1) ^^^ BitVec.ofInt 64 a).toNat : Int) = _
  rw [h1, IntKind.wrap_i64]
  unfold inR at ha
  omega
set_option maxRecDepth 100000 in
theorem RBinary_plus (a b : Int) (ha : inR a) (hb : inR b) (w : World) : Calls Tryd.prog 19 #[.string ⟨#[43]⟩, .int .i64 a, .int .i64 b] w fun e w' => e = .returned (pair (ovf (a + b))) ∧ w = w' := by
  have HA := Lib.hid ha
  have HB := Lib.hid hb
  clear ha hb
  go_enter Tryd.func19, Tryd.ntmps19
  go_wp2_with fail
  refine (radd_any a b HA.out HB.out _).mono ?_
  rintro e w2 ⟨rfl, rfl⟩
  obtain ⟨r1, r2, hr⟩ := prod_ex (ovf (a + b))
  rw [hr, pair]
  have HR := Lib.hid hr
  clear hr
  go_wp2_with fail
  go_ret2
  exact ⟨ret_pair rfl HR.out, rfl⟩
set_option maxRecDepth 100000 in
theorem RBinary_minus (a b : Int) (ha : inR a) (hb : inR b) (w : World) : Calls Tryd.prog 19 #[.string ⟨#[45]⟩, .int .i64 a, .int .i64 b] w fun e w' => e = .returned (pair (ovf (a - b))) ∧ w = w' := by
  have HA := Lib.hid ha
  have HB := Lib.hid hb
  clear ha hb
  go_enter Tryd.func19, Tryd.ntmps19
  go_wp2_with fail
  refine (rsub_any a b HA.out HB.out _).mono ?_
  rintro e w2 ⟨rfl, rfl⟩
  obtain ⟨r1, r2, hr⟩ := prod_ex (ovf (a - b))
  rw [hr, pair]
  have HR := Lib.hid hr
  clear hr
  go_wp2_with fail
  go_ret2
  exact ⟨ret_pair rfl HR.out, rfl⟩
set_option maxRecDepth 100000 in
theorem RBinary_times (a b : Int) (ha : inR a) (hb : inR b) (w : World) : Calls Tryd.prog 19 #[.string ⟨#[42]⟩, .int .i64 a, .int .i64 b] w fun e w' => e = .returned (pair (ovf (a * b))) ∧ w = w' := by
  have HA := Lib.hid ha
  have HB := Lib.hid hb
  clear ha hb
  go_enter Tryd.func19, Tryd.ntmps19
  go_wp2_with fail
  refine (rmul_any a b HA.out HB.out _).mono ?_
  rintro e w2 ⟨rfl, rfl⟩
  obtain ⟨r1, r2, hr⟩ := prod_ex (ovf (a * b))
  rw [hr, pair]
  have HR := Lib.hid hr
  clear hr
  go_wp2_with fail
  go_ret2
  exact ⟨ret_pair rfl HR.out, rfl⟩
set_option maxRecDepth 100000 in
theorem RBinary_quot (a b : Int) (ha : inR a) (hb : inR b) (w : World) : Calls Tryd.prog 19 #[.string ⟨#[47, 47]⟩, .int .i64 a, .int .i64 b] w fun e w' => e = .returned (pair (quo a b)) ∧ w = w' := by
  have HA := Lib.hid ha
  have HB := Lib.hid hb
  clear ha hb
  by_cases h0 : b = 0
  · subst h0
    have HE := Lib.hid (show quo a 0 = (0, 11) from if_pos rfl)
    go_enter Tryd.func19, Tryd.ntmps19
    go_wp2_with fail
    go_ret2
    exact ⟨ret_pair rfl HE.out, rfl⟩
  · have b0 : (b == 0) = false := by simpa using h0
    have H0 := Lib.hid h0
    clear h0
    go_enter Tryd.func19, Tryd.ntmps19
    go_wp2_with fail
    refine (rquot_any a b HA.out H0.out _).mono ?_
    rintro e w2 ⟨rfl, rfl⟩
    obtain ⟨r1, r2, hr⟩ := prod_ex (quo a b)
    rw [hr, pair]
    have HR := Lib.hid hr
    clear hr
    go_wp2_with fail
    go_ret2
    exact ⟨ret_pair rfl HR.out, rfl⟩
set_option maxRecDepth 100000 in
theorem RBinary_rem (a b : Int) (ha : inR a) (hb : inR b) (w : World) : Calls Tryd.prog 19 #[.string ⟨#[114, 101, 109]⟩, .int .i64 a, .int .i64 b] w fun e w' => e = .returned (pair (rmd a b)) ∧ w = w' := by
  have HA := Lib.hid ha
  have HB := Lib.hid hb
  clear ha hb
  by_cases h0 : b = 0
  · subst h0
    have HE := Lib.hid (show rmd a 0 = (0, 11) from if_pos rfl)
    go_enter Tryd.func19, Tryd.ntmps19
    go_wp2_with fail
    go_ret2
    exact ⟨ret_pair rfl HE.out, rfl⟩
  · have b0 : (b == 0) = false := by simpa using h0
    have H0 := Lib.hid h0
    clear h0
    have HE := Lib.hid (show rmd a b = (a.tmod b, 0) by unfold rmd; rw [if_neg H0.out])
    go_enter Tryd.func19, Tryd.ntmps19
    go_wp2_with fail
    refine (rrem_any a b HA.out H0.out _).mono ?_
    rintro e w2 ⟨rfl, rfl⟩
    go_wp2_with fail
    go_ret2
    exact ⟨ret_pair rfl HE.out, rfl⟩
set_option maxRecDepth 100000 in
theorem RBinary_div (a b : Int) (ha : inR a) (hb : inR b) (w : World) : Calls Tryd.prog 19 #[.string ⟨#[100, 105, 118]⟩, .int .i64 a, .int .i64 b] w fun e w' => e = .returned (pair (flr a b)) ∧ w = w' := by
  have HA := Lib.hid ha
  have HB := Lib.hid hb
  clear ha hb
  by_cases h0 : b = 0
  · subst h0
    have HE := Lib.hid (show flr a 0 = (0, 11) from if_pos rfl)
    go_enter Tryd.func19, Tryd.ntmps19
    go_wp2_with fail
    go_ret2
    exact ⟨ret_pair rfl HE.out, rfl⟩
  · have b0 : (b == 0) = false := by simpa using h0
    have H0 := Lib.hid h0
    clear h0
    go_enter Tryd.func19, Tryd.ntmps19
    go_wp2_with fail
    refine (rdiv_any a b HA.out H0.out _).mono ?_
    rintro e w2 ⟨rfl, rfl⟩
    obtain ⟨r1, r2, hr⟩ := prod_ex (flr a b)
    rw [hr, pair]
    have HR := Lib.hid hr
    clear hr
    go_wp2_with fail
    go_ret2
    exact ⟨ret_pair rfl HR.out, rfl⟩
set_option maxRecDepth 100000 in
theorem RBinary_mod (a b : Int) (ha : inR a) (hb : inR b) (w : World) : Calls Tryd.prog 19 #[.string ⟨#[109, 111, 100]⟩, .int .i64 a, .int .i64 b] w fun e w' => e = .returned (pair (mdl a b)) ∧ w = w' := by
  have HA := Lib.hid ha
  have HB := Lib.hid hb
  clear ha hb
  by_cases h0 : b = 0
  · subst h0
    have HE := Lib.hid (show mdl a 0 = (0, 11) from if_pos rfl)
    go_enter Tryd.func19, Tryd.ntmps19
    go_wp2_with fail
    go_ret2
    exact ⟨ret_pair rfl HE.out, rfl⟩
  · have b0 : (b == 0) = false := by simpa using h0
    have H0 := Lib.hid h0
    clear h0
    have HE := Lib.hid (show mdl a b = ((mdl a b).1, 0) by unfold mdl; rw [if_neg H0.out])
    go_enter Tryd.func19, Tryd.ntmps19
    go_wp2_with fail
    refine (rmod_any a b HA.out HB.out H0.out _).mono ?_
    rintro e w2 ⟨rfl, rfl⟩
    go_wp2_with fail
    go_ret2
    exact ⟨ret_pair rfl HE.out, rfl⟩
set_option maxRecDepth 100000 in
theorem RBinary_min (a b : Int) (ha : inR a) (hb : inR b) (w : World) : Calls Tryd.prog 19 #[.string ⟨#[109, 105, 110]⟩, .int .i64 a, .int .i64 b] w fun e w' => e = .returned (pair ((min a b, 0))) ∧ w = w' := by
  have HA := Lib.hid ha
  have HB := Lib.hid hb
  clear ha hb
  by_cases h0 : b < a
  · have HE := Lib.hid (show (min a b, (0 : Int)) = (b, 0) by congr 1; omega)
    go_enter Tryd.func19, Tryd.ntmps19
    go_wp2_with fail
    go_ret2
    exact ⟨ret_pair rfl HE.out, rfl⟩
  · have HE := Lib.hid (show (min a b, (0 : Int)) = (a, 0) by congr 1; omega)
    go_enter Tryd.func19, Tryd.ntmps19
    go_wp2_with fail
    go_ret2
    exact ⟨ret_pair rfl HE.out, rfl⟩
set_option maxRecDepth 100000 in
theorem RBinary_max (a b : Int) (ha : inR a) (hb : inR b) (w : World) : Calls Tryd.prog 19 #[.string ⟨#[109, 97, 120]⟩, .int .i64 a, .int .i64 b] w fun e w' => e = .returned (pair ((max a b, 0))) ∧ w = w' := by
  have HA := Lib.hid ha
  have HB := Lib.hid hb
  clear ha hb
  by_cases h0 : a < b
  · have HE := Lib.hid (show (max a b, (0 : Int)) = (b, 0) by congr 1; omega)
    go_enter Tryd.func19, Tryd.ntmps19
    go_wp2_with fail
    go_ret2
    exact ⟨ret_pair rfl HE.out, rfl⟩
  · have HE := Lib.hid (show (max a b, (0 : Int)) = (a, 0) by congr 1; omega)
    go_enter Tryd.func19, Tryd.ntmps19
    go_wp2_with fail
    go_ret2
    exact ⟨ret_pair rfl HE.out, rfl⟩
set_option maxRecDepth 100000 in
theorem RBinary_right (a b : Int) (ha : inR a) (hb : inR b) (w : World) : Calls Tryd.prog 19 #[.string ⟨#[62, 62]⟩, .int .i64 a, .int .i64 b] w fun e w' => e = .returned (pair (shr a b)) ∧ w = w' := by
  have HA := Lib.hid ha
  have HB := Lib.hid hb
  clear ha hb
  go_enter Tryd.func19, Tryd.ntmps19
  go_wp2_with fail
  refine (rright_any a b HA.out _).mono ?_
  rintro e w2 ⟨rfl, rfl⟩
  obtain ⟨r1, r2, hr⟩ := prod_ex (shr a b)
  rw [hr, pair]
  have HR := Lib.hid hr
  clear hr
  go_wp2_with fail
  go_ret2
  exact ⟨ret_pair rfl HR.out, rfl⟩
set_option maxRecDepth 100000 in
theorem RBinary_left (a b : Int) (ha : inR a) (hb : inR b) (w : World) : Calls Tryd.prog 19 #[.string ⟨#[60, 60]⟩, .int .i64 a, .int .i64 b] w fun e w' => e = .returned (pair (shl a b)) ∧ w = w' := by
  have HA := Lib.hid ha
  have HB := Lib.hid hb
  clear ha hb
  go_enter Tryd.func19, Tryd.ntmps19
  go_wp2_with fail
  refine (rleft_any a b HA.out _).mono ?_
  rintro e w2 ⟨rfl, rfl⟩
  obtain ⟨r1, r2, hr⟩ := prod_ex (shl a b)
  rw [hr, pair]
  have HR := Lib.hid hr
  clear hr
  go_wp2_with fail
  go_ret2
  exact ⟨ret_pair rfl HR.out, rfl⟩
set_option maxRecDepth 100000 in
theorem RBinary_and (a b : Int) (ha : inR a) (hb : inR b) (w : World) : Calls Tryd.prog 19 #[.string ⟨#[47, 92]⟩, .int .i64 a, .int .i64 b] w fun e w' => e = .returned (pair ((bits BinOp.and IntKind.i64 a b, 0))) ∧ w = w' := by
  have HA := Lib.hid ha
  have HB := Lib.hid hb
  clear ha hb
  go_enter Tryd.func19, Tryd.ntmps19
  go_wp2_with fail
  go_ret2
  exact ⟨ret_pair rfl rfl, rfl⟩
set_option maxRecDepth 100000 in
theorem RBinary_or (a b : Int) (ha : inR a) (hb : inR b) (w : World) : Calls Tryd.prog 19 #[.string ⟨#[92, 47]⟩, .int .i64 a, .int .i64 b] w fun e w' => e = .returned (pair ((bits BinOp.or IntKind.i64 a b, 0))) ∧ w = w' := by
  have HA := Lib.hid ha
  have HB := Lib.hid hb
  clear ha hb
  go_enter Tryd.func19, Tryd.ntmps19
  go_wp2_with fail
  go_ret2
  exact ⟨ret_pair rfl rfl, rfl⟩
set_option maxRecDepth 100000 in
theorem RBinary_xor (a b : Int) (ha : inR a) (hb : inR b) (w : World) : Calls Tryd.prog 19 #[.string ⟨#[120, 111, 114]⟩, .int .i64 a, .int .i64 b] w fun e w' => e = .returned (pair ((bits BinOp.xor IntKind.i64 a b, 0))) ∧ w = w' := by
  have HA := Lib.hid ha
  have HB := Lib.hid hb
  clear ha hb
  go_enter Tryd.func19, Tryd.ntmps19
  go_wp2_with fail
  go_ret2
  exact ⟨ret_pair rfl rfl, rfl⟩
set_option maxRecDepth 100000 in
theorem RBinary_pow (a b : Int) (ha : inR a) (hb : inR b) (w : World) : Calls Tryd.prog 19 #[.string ⟨#[94]⟩, .int .i64 a, .int .i64 b] w fun e w' => e = .returned (pair (pw a b)) ∧ w = w' := by
  have HA := Lib.hid ha
  have HB := Lib.hid hb
  clear ha hb
  go_enter Tryd.func19, Tryd.ntmps19
  go_wp2_with fail
  refine (rpower_any a b HA.out HB.out _).mono ?_
  rintro e w2 ⟨rfl, rfl⟩
  obtain ⟨r1, r2, hr⟩ := prod_ex (pw a b)
  rw [hr, pair]
  have HR := Lib.hid hr
  clear hr
  go_wp2_with fail
  go_ret2
  exact ⟨ret_pair rfl HR.out, rfl⟩
set_option maxRecDepth 100000 in
theorem RBinary_gcd (a b : Int) (ha : inR a) (hb : inR b) (w : World) : Calls Tryd.prog 19 #[.string ⟨#[103, 99, 100]⟩, .int .i64 a, .int .i64 b] w fun e w' => e = .returned (pair (gcdE a b)) ∧ w = w' := by
  have HA := Lib.hid ha
  have HB := Lib.hid hb
  clear ha hb
  go_enter Tryd.func19, Tryd.ntmps19
  go_wp2_with fail
  refine (rgcd_any a b HA.out HB.out _).mono ?_
  rintro e w2 ⟨rfl, rfl⟩
  obtain ⟨r1, r2, hr⟩ := prod_ex (gcdE a b)
  rw [hr, pair]
  have HR := Lib.hid hr
  clear hr
  go_wp2_with fail
  go_ret2
  exact ⟨ret_pair rfl HR.out, rfl⟩
theorem RUnary_neg (a : Int) (ha : inR a) (w : World) : Calls Tryd.prog 14 #[.string ⟨#[45]⟩, .int .i64 a] w fun e w' => e = .returned (pair (ovf (0 - a))) ∧ w = w' := by
  have HA := Lib.hid ha
  clear ha
  go_enter Tryd.func14, Tryd.ntmps14
  go_wp2_with fail
  refine (rsub_any 0 a (by decide) HA.out _).mono ?_
  rintro e w2 ⟨rfl, rfl⟩
  obtain ⟨r1, r2, hr⟩ := prod_ex (ovf (0 - a))
  rw [hr, pair]
  have HR := Lib.hid hr
  clear hr
  go_wp2_with fail
  go_ret2
  exact ⟨ret_pair rfl HR.out, rfl⟩
theorem RUnary_id (a : Int) (ha : inR a) (w : World) : Calls Tryd.prog 14 #[.string ⟨#[43]⟩, .int .i64 a] w fun e w' => e = .returned (pair ((a, 0))) ∧ w = w' := by
  have HA := Lib.hid ha
  clear ha
  go_enter Tryd.func14, Tryd.ntmps14
  go_wp2_with fail
  go_ret2
  exact ⟨ret_pair rfl rfl, rfl⟩
theorem RUnary_abs (a : Int) (ha : inR a) (w : World) : Calls Tryd.prog 14 #[.string ⟨#[97, 98, 115]⟩, .int .i64 a] w fun e w' => e = .returned (pair (absE a)) ∧ w = w' := by
  have HA := Lib.hid ha
  clear ha
  by_cases h0 : a < 0
  · have HE := Lib.hid (show absE a = ovf (0 - a) from if_pos h0)
    go_enter Tryd.func14, Tryd.ntmps14
    go_wp2_with fail
    refine (rsub_any 0 a (by decide) HA.out _).mono ?_
    rintro e w2 ⟨rfl, rfl⟩
    obtain ⟨r1, r2, hr⟩ := prod_ex (ovf (0 - a))
    rw [hr, pair]
    have HR := Lib.hid hr
    clear hr
    go_wp2_with fail
    go_ret2
    exact ⟨ret_pair rfl (HE.out.trans HR.out), rfl⟩
  · have HE := Lib.hid (show absE a = (a, 0) from if_neg h0)
    go_enter Tryd.func14, Tryd.ntmps14
    go_wp2_with fail
    go_ret2
    exact ⟨ret_pair rfl HE.out, rfl⟩
theorem RUnary_sgn (a : Int) (ha : inR a) (w : World) : Calls Tryd.prog 14 #[.string ⟨#[115, 105, 103, 110]⟩, .int .i64 a] w fun e w' => e = .returned (pair ((sgn a, 0))) ∧ w = w' := by
  have HA := Lib.hid ha
  clear ha
  go_enter Tryd.func14, Tryd.ntmps14
  go_wp2_with fail
  all_goals go_ret2
  all_goals exact ⟨ret_pair (by unfold sgn; split <;> (try split) <;> omega) rfl, rfl⟩
theorem RUnary_not (a : Int) (ha : inR a) (w : World) : Calls Tryd.prog 14 #[.string ⟨#[92]⟩, .int .i64 a] w fun e w' => e = .returned (pair ((bits BinOp.xor IntKind.i64 (-1) a, 0))) ∧ w = w' := by
  have HA := Lib.hid ha
  have HE := Lib.hid (not_eq ha)
  unfold inR at ha
  go_enter Tryd.func14, Tryd.ntmps14
  go_wp2_with fail
  go_ret2
  exact ⟨ret_pair HE.out.symm rfl, rfl⟩
theorem ne_list {x : ByteArray} {l : List UInt8} (h : x ≠ ⟨l.toArray⟩) : (x.toList == l) = false := by
  rw [beq_eq_false_iff_ne, ByteArray.toList_eq]
  rintro rfl
  exact h (by cases x; simp)
set_option maxRecDepth 100000 in
theorem RUnary_any (x : ByteArray) (a : Int) (ha : inR a) (w : World) : Calls Tryd.prog 14 #[.string x, .int .i64 a] w fun e w' => e = .returned (pair (unS x a)) ∧ w = w' := by
  by_cases h0 : x = ⟨#[45]⟩
  · subst h0
    rw [show unS ⟨#[45]⟩ a = ovf (0 - a) by simp [unS, eqS_data]]
    exact RUnary_neg a ha w
  by_cases h1 : x = ⟨#[43]⟩
  · subst h1
    rw [show unS ⟨#[43]⟩ a = (a, 0) by simp [unS, eqS_data]]
    exact RUnary_id a ha w
  by_cases h2 : x = ⟨#[97, 98, 115]⟩
  · subst h2
    rw [show unS ⟨#[97, 98, 115]⟩ a = absE a by simp [unS, eqS_data]]
    exact RUnary_abs a ha w
  by_cases h3 : x = ⟨#[115, 105, 103, 110]⟩
  · subst h3
    rw [show unS ⟨#[115, 105, 103, 110]⟩ a = (sgn a, 0) by simp [unS, eqS_data]]
    exact RUnary_sgn a ha w
  by_cases h4 : x = ⟨#[92]⟩
  · subst h4
    rw [show unS ⟨#[92]⟩ a = (bits BinOp.xor IntKind.i64 (-1) a, 0) by simp [unS, eqS_data]]
    exact RUnary_not a ha w
  have HE := Lib.hid (show unS x a = (0, 4) by simp [unS, eqS_ne h0, eqS_ne h1, eqS_ne h2, eqS_ne h3, eqS_ne h4])
  have g0 := ne_list h0
  have g1 := ne_list h1
  have g2 := ne_list h2
  have g3 := ne_list h3
  have g4 := ne_list h4
  clear ha h0 h1 h2 h3 h4
  go_enter Tryd.func14, Tryd.ntmps14
  go_wp2_with fail
  go_ret2
  exact ⟨ret_pair rfl HE.out, rfl⟩
set_option maxRecDepth 100000 in
theorem RBinary_any (x : ByteArray) (a b : Int) (ha : inR a) (hb : inR b) (w : World) : Calls Tryd.prog 19 #[.string x, .int .i64 a, .int .i64 b] w fun e w' => e = .returned (pair (binS x a b)) ∧ w = w' := by
  by_cases h0 : x = ⟨#[43]⟩
  · subst h0
    rw [show binS ⟨#[43]⟩ a b = ovf (a + b) by simp [binS, eqS_data]]
    exact RBinary_plus a b ha hb w
  by_cases h1 : x = ⟨#[45]⟩
  · subst h1
    rw [show binS ⟨#[45]⟩ a b = ovf (a - b) by simp [binS, eqS_data]]
    exact RBinary_minus a b ha hb w
  by_cases h2 : x = ⟨#[42]⟩
  · subst h2
    rw [show binS ⟨#[42]⟩ a b = ovf (a * b) by simp [binS, eqS_data]]
    exact RBinary_times a b ha hb w
  by_cases h3 : x = ⟨#[47, 47]⟩
  · subst h3
    rw [show binS ⟨#[47, 47]⟩ a b = quo a b by simp [binS, eqS_data]]
    exact RBinary_quot a b ha hb w
  by_cases h4 : x = ⟨#[114, 101, 109]⟩
  · subst h4
    rw [show binS ⟨#[114, 101, 109]⟩ a b = rmd a b by simp [binS, eqS_data]]
    exact RBinary_rem a b ha hb w
  by_cases h5 : x = ⟨#[100, 105, 118]⟩
  · subst h5
    rw [show binS ⟨#[100, 105, 118]⟩ a b = flr a b by simp [binS, eqS_data]]
    exact RBinary_div a b ha hb w
  by_cases h6 : x = ⟨#[109, 111, 100]⟩
  · subst h6
    rw [show binS ⟨#[109, 111, 100]⟩ a b = mdl a b by simp [binS, eqS_data]]
    exact RBinary_mod a b ha hb w
  by_cases h7 : x = ⟨#[109, 105, 110]⟩
  · subst h7
    rw [show binS ⟨#[109, 105, 110]⟩ a b = (min a b, 0) by simp [binS, eqS_data]]
    exact RBinary_min a b ha hb w
  by_cases h8 : x = ⟨#[109, 97, 120]⟩
  · subst h8
    rw [show binS ⟨#[109, 97, 120]⟩ a b = (max a b, 0) by simp [binS, eqS_data]]
    exact RBinary_max a b ha hb w
  by_cases h9 : x = ⟨#[62, 62]⟩
  · subst h9
    rw [show binS ⟨#[62, 62]⟩ a b = shr a b by simp [binS, eqS_data]]
    exact RBinary_right a b ha hb w
  by_cases h10 : x = ⟨#[60, 60]⟩
  · subst h10
    rw [show binS ⟨#[60, 60]⟩ a b = shl a b by simp [binS, eqS_data]]
    exact RBinary_left a b ha hb w
  by_cases h11 : x = ⟨#[47, 92]⟩
  · subst h11
    rw [show binS ⟨#[47, 92]⟩ a b = (bits BinOp.and IntKind.i64 a b, 0) by simp [binS, eqS_data]]
    exact RBinary_and a b ha hb w
  by_cases h12 : x = ⟨#[92, 47]⟩
  · subst h12
    rw [show binS ⟨#[92, 47]⟩ a b = (bits BinOp.or IntKind.i64 a b, 0) by simp [binS, eqS_data]]
    exact RBinary_or a b ha hb w
  by_cases h13 : x = ⟨#[120, 111, 114]⟩
  · subst h13
    rw [show binS ⟨#[120, 111, 114]⟩ a b = (bits BinOp.xor IntKind.i64 a b, 0) by simp [binS, eqS_data]]
    exact RBinary_xor a b ha hb w
  by_cases h14 : x = ⟨#[94]⟩
  · subst h14
    rw [show binS ⟨#[94]⟩ a b = pw a b by simp [binS, eqS_data]]
    exact RBinary_pow a b ha hb w
  by_cases h15 : x = ⟨#[103, 99, 100]⟩
  · subst h15
    rw [show binS ⟨#[103, 99, 100]⟩ a b = gcdE a b by simp [binS, eqS_data]]
    exact RBinary_gcd a b ha hb w
  have HE := Lib.hid (show binS x a b = (0, 4) by simp [binS, eqS_ne h0, eqS_ne h1, eqS_ne h2, eqS_ne h3, eqS_ne h4, eqS_ne h5, eqS_ne h6, eqS_ne h7, eqS_ne h8, eqS_ne h9, eqS_ne h10, eqS_ne h11, eqS_ne h12, eqS_ne h13, eqS_ne h14, eqS_ne h15])
  have g0 := ne_list h0
  have g1 := ne_list h1
  have g2 := ne_list h2
  have g3 := ne_list h3
  have g4 := ne_list h4
  have g5 := ne_list h5
  have g6 := ne_list h6
  have g7 := ne_list h7
  have g8 := ne_list h8
  have g9 := ne_list h9
  have g10 := ne_list h10
  have g11 := ne_list h11
  have g12 := ne_list h12
  have g13 := ne_list h13
  have g14 := ne_list h14
  have g15 := ne_list h15
  clear ha hb h0 h1 h2 h3 h4 h5 h6 h7 h8 h9 h10 h11 h12 h13 h14 h15
  go_enter Tryd.func19, Tryd.ntmps19
  go_wp2_with fail
  go_ret2
  exact ⟨ret_pair rfl HE.out, rfl⟩
end Go.Proofs.YtcnbaioecoaopaaDoor
