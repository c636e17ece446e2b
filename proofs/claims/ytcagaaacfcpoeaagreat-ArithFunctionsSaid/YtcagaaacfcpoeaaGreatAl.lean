/-
  The walks of Binary and Unary.
-/
import Derived.Test.YtcagaaacfcpoeaaGreatAk
import Derived.Test.YtcagaaacfcpoeaaGreatAj
import Derived.WalkSmall
namespace Go.Proofs.YtcagaaacfcpoeaaGreat
open Go.RowKit
theorem BoxF.alloc {w : World} {b f : Nat} (h : BoxF w b f) (o : Obj) : BoxF (w.alloc o) b f := by
  have hl := h.lt
  unfold BoxF at *
  rw [Below.heap_alloc _ _ _ hl]; exact h
theorem BoxF.cellA {w : World} {b f : Nat} (h : BoxF w b f) (o : Obj) : (w.alloc o).cell? ⟨b, 0, none⟩ = some (.func (.func f) #[] #[]) := (h.alloc o).cell
def absE (a : Int) : Int × Int := if a < 0 then ovf (0 - a) else (a, 0)
theorem neg_any (a b : Int) (ha : inR a) (w : World) : Calls Tryz.prog 99 #[.int .i64 a, .int .i64 b] w fun e w' => e = .returned (pair (ovf (0 - a))) ∧ w = w' := by
  have HA := Lib.hid ha
  clear ha
  go_enter Tryz.func99, Tryz.ntmps99
  go_wp2_with fail
  refine (minus_any 0 a (by decide) HA.out _).mono ?_
  rintro e w1 ⟨rfl, rfl⟩
  obtain ⟨r1, r2, hr⟩ := prod_ex (ovf (0 - a))
  rw [hr, pair]
  have HR := Lib.hid hr
  clear hr
  go_wp2_with fail
  go_ret2
  exact ⟨ret_pair rfl HR.out, rfl⟩
theorem abs_any (a b : Int) (ha : inR a) (w : World) : Calls Tryz.prog 103 #[.int .i64 a, .int .i64 b] w fun e w' => e = .returned (pair (absE a)) ∧ w = w' := by
  have HA := Lib.hid ha
  clear ha
  by_cases h : a < 0
  · have HE := Lib.hid (show absE a = ovf (0 - a) from if_pos h)
    go_enter Tryz.func103, Tryz.ntmps103
    go_wp2_with fail
    refine (minus_any 0 a (by decide) HA.out _).mono ?_
    rintro e w1 ⟨rfl, rfl⟩
    obtain ⟨r1, r2, hr⟩ := prod_ex (ovf (0 - a))
    rw [hr, pair]
    have HR := Lib.hid hr
    clear hr
    go_wp2_with fail
    go_ret2
    exact ⟨ret_pair rfl (HE.out.trans HR.out), rfl⟩
  · have HE := Lib.hid (show absE a = (a, 0) from if_neg h)
    go_enter Tryz.func103, Tryz.ntmps103
    go_wp2_with fail
    go_ret2
    exact ⟨ret_pair rfl HE.out, rfl⟩
def unS (x : ByteArray) (a : Int) : Int × Int :=
  if eqS x ⟨#[45]⟩ then ovf (0 - a) else if eqS x ⟨#[43]⟩ then (a, 0) else if eqS x ⟨#[97, 98, 115]⟩ then absE a else if eqS x ⟨#[115, 105, 103, 110]⟩ then (sgn a, 0) else if eqS x ⟨#[92]⟩ then (bits BinOp.xor IntKind.i64 (-1) a, 0) else (0, 4)
def binS (x : ByteArray) (a b : Int) : Int × Int :=
  if eqS x ⟨#[43]⟩ then ovf (a + b) else if eqS x ⟨#[45]⟩ then ovf (a - b) else if eqS x ⟨#[42]⟩ then ovf (a * b) else if eqS x ⟨#[47, 47]⟩ then quo a b else if eqS x ⟨#[114, 101, 109]⟩ then rmd a b else if eqS x ⟨#[100, 105, 118]⟩ then flr a b else if eqS x ⟨#[109, 111, 100]⟩ then mdl a b else if eqS x ⟨#[109, 105, 110]⟩ then (min a b, 0) else if eqS x ⟨#[109, 97, 120]⟩ then (max a b, 0) else if eqS x ⟨#[62, 62]⟩ then shr a b else if eqS x ⟨#[60, 60]⟩ then shl a b else if eqS x ⟨#[47, 92]⟩ then (bits BinOp.and IntKind.i64 a b, 0) else if eqS x ⟨#[92, 47]⟩ then (bits BinOp.or IntKind.i64 a b, 0) else if eqS x ⟨#[120, 111, 114]⟩ then (bits BinOp.xor IntKind.i64 a b, 0) else if eqS x ⟨#[94]⟩ then pw a b else if eqS x ⟨#[103, 99, 100]⟩ then gcdE a b else (0, 4)
theorem Unary_neg (a : Int) (ha : inR a) (w : World) : Calls Tryz.prog 65 #[.string ⟨#[45]⟩, .int .i64 a] w fun e w' => e = .returned (pair (ovf (0 - a))) ∧ Below w.heap.size w w' := by
  have HA := Lib.hid ha
  clear ha
  go_enter Tryz.func65, Tryz.ntmps65
  go_wp2_with fail
  refine (unary_any _).mono ?_
  rintro e w1 ⟨⟨g, rfl, ⟨b1, b2, b3, hm, x1, x2, x3⟩, hg⟩, hl⟩
  have hk := run_look hm ⟨#[45]⟩
  have hv : lookS (unaryT b1 b2 b3) ⟨#[45]⟩ = some (0, .agg #[.func (.func 99) #[] #[]]) := by simp [unaryT, lookS, eqS_data]
  rw [hv] at hk
  simp only [Option.map_some, Option.getD_some, Option.isSome_some] at hk
  have HL := Lib.hid hl
  clear hm hl hv x1 x2 x3
  go_wp2_with fail
  refine (neg_any a 0 HA.out _).mono ?_
  rintro e w2 ⟨rfl, rfl⟩
  obtain ⟨r1, r2, hr⟩ := prod_ex (ovf (0 - a))
  rw [hr, pair]
  have HR := Lib.hid hr
  clear hr hk
  go_wp2_with fail
  go_ret2
  exact ⟨ret_pair rfl HR.out, HL.out.alloc HL.out.size _⟩
theorem Unary_id (a : Int) (ha : inR a) (w : World) : Calls Tryz.prog 65 #[.string ⟨#[43]⟩, .int .i64 a] w fun e w' => e = .returned (pair ((a, 0))) ∧ Below w.heap.size w w' := by
  have HA := Lib.hid ha
  clear ha
  go_enter Tryz.func65, Tryz.ntmps65
  go_wp2_with fail
  refine (unary_any _).mono ?_
  rintro e w1 ⟨⟨g, rfl, ⟨b1, b2, b3, hm, x1, x2, x3⟩, hg⟩, hl⟩
  have hk := run_look hm ⟨#[43]⟩
  have hv : lookS (unaryT b1 b2 b3) ⟨#[43]⟩ = some (1, exF b1) := by simp [unaryT, lookS, eqS_data]
  rw [hv] at hk
  simp only [Option.map_some, Option.getD_some, Option.isSome_some, exF] at hk
  have HL := Lib.hid hl
  have HX := Lib.hid x1
  clear hm hl hv x1 x2 x3
  go_wp2_with fail
  refine (id_exact b1 a 0 _ (HX.out.cellA _)).mono ?_
  rintro e w2 ⟨rfl, rfl⟩
  obtain ⟨r1, r2, hr⟩ := prod_ex ((a, 0))
  rw [hr, pair]
  have HR := Lib.hid hr
  clear hr hk
  go_wp2_with fail
  go_ret2
  exact ⟨ret_pair rfl HR.out, HL.out.alloc HL.out.size _⟩
theorem Unary_abs (a : Int) (ha : inR a) (w : World) : Calls Tryz.prog 65 #[.string ⟨#[97, 98, 115]⟩, .int .i64 a] w fun e w' => e = .returned (pair (absE a)) ∧ Below w.heap.size w w' := by
  have HA := Lib.hid ha
  clear ha
  go_enter Tryz.func65, Tryz.ntmps65
  go_wp2_with fail
  refine (unary_any _).mono ?_
  rintro e w1 ⟨⟨g, rfl, ⟨b1, b2, b3, hm, x1, x2, x3⟩, hg⟩, hl⟩
  have hk := run_look hm ⟨#[97, 98, 115]⟩
  have hv : lookS (unaryT b1 b2 b3) ⟨#[97, 98, 115]⟩ = some (2, .agg #[.func (.func 103) #[] #[]]) := by simp [unaryT, lookS, eqS_data]
  rw [hv] at hk
  simp only [Option.map_some, Option.getD_some, Option.isSome_some] at hk
  have HL := Lib.hid hl
  clear hm hl hv x1 x2 x3
  go_wp2_with fail
  refine (abs_any a 0 HA.out _).mono ?_
  rintro e w2 ⟨rfl, rfl⟩
  obtain ⟨r1, r2, hr⟩ := prod_ex (absE a)
  rw [hr, pair]
  have HR := Lib.hid hr
  clear hr hk
  go_wp2_with fail
  go_ret2
  exact ⟨ret_pair rfl HR.out, HL.out.alloc HL.out.size _⟩
theorem Unary_sgn (a : Int) (ha : inR a) (w : World) : Calls Tryz.prog 65 #[.string ⟨#[115, 105, 103, 110]⟩, .int .i64 a] w fun e w' => e = .returned (pair ((sgn a, 0))) ∧ Below w.heap.size w w' := by
  have HA := Lib.hid ha
  clear ha
  go_enter Tryz.func65, Tryz.ntmps65
  go_wp2_with fail
  refine (unary_any _).mono ?_
  rintro e w1 ⟨⟨g, rfl, ⟨b1, b2, b3, hm, x1, x2, x3⟩, hg⟩, hl⟩
  have hk := run_look hm ⟨#[115, 105, 103, 110]⟩
  have hv : lookS (unaryT b1 b2 b3) ⟨#[115, 105, 103, 110]⟩ = some (3, exF b2) := by simp [unaryT, lookS, eqS_data]
  rw [hv] at hk
  simp only [Option.map_some, Option.getD_some, Option.isSome_some, exF] at hk
  have HL := Lib.hid hl
  have HX := Lib.hid x2
  clear hm hl hv x1 x2 x3
  go_wp2_with fail
  refine (sgn_exact b2 a 0 _ (HX.out.cellA _)).mono ?_
  rintro e w2 ⟨rfl, rfl⟩
  obtain ⟨r1, r2, hr⟩ := prod_ex ((sgn a, 0))
  rw [hr, pair]
  have HR := Lib.hid hr
  clear hr hk
  go_wp2_with fail
  go_ret2
  exact ⟨ret_pair rfl HR.out, HL.out.alloc HL.out.size _⟩
theorem Unary_not (a : Int) (ha : inR a) (w : World) : Calls Tryz.prog 65 #[.string ⟨#[92]⟩, .int .i64 a] w fun e w' => e = .returned (pair ((bits BinOp.xor IntKind.i64 (-1) a, 0))) ∧ Below w.heap.size w w' := by
  have HA := Lib.hid ha
  clear ha
  go_enter Tryz.func65, Tryz.ntmps65
  go_wp2_with fail
  refine (unary_any _).mono ?_
  rintro e w1 ⟨⟨g, rfl, ⟨b1, b2, b3, hm, x1, x2, x3⟩, hg⟩, hl⟩
  have hk := run_look hm ⟨#[92]⟩
  have hv : lookS (unaryT b1 b2 b3) ⟨#[92]⟩ = some (4, exF b3) := by simp [unaryT, lookS, eqS_data]
  rw [hv] at hk
  simp only [Option.map_some, Option.getD_some, Option.isSome_some, exF] at hk
  have HL := Lib.hid hl
  have HX := Lib.hid x3
  clear hm hl hv x1 x2 x3
  go_wp2_with fail
  refine (not_exact b3 a 0 _ (HX.out.cellA _)).mono ?_
  rintro e w2 ⟨rfl, rfl⟩
  obtain ⟨r1, r2, hr⟩ := prod_ex ((bits BinOp.xor IntKind.i64 (-1) a, 0))
  rw [hr, pair]
  have HR := Lib.hid hr
  clear hr hk
  go_wp2_with fail
  go_ret2
  exact ⟨ret_pair rfl HR.out, HL.out.alloc HL.out.size _⟩
theorem Binary_plus (a b : Int) (ha : inR a) (hb : inR b) (w : World) : Calls Tryz.prog 66 #[.string ⟨#[43]⟩, .int .i64 a, .int .i64 b] w fun e w' => e = .returned (pair (ovf (a + b))) ∧ Below w.heap.size w w' := by
  have HA := Lib.hid ha
  have HB := Lib.hid hb
  clear ha hb
  go_enter Tryz.func66, Tryz.ntmps66
  go_wp2_with fail
  refine (binary_any _).mono ?_
  rintro e w1 ⟨⟨g, rfl, ⟨b1, b2, b3, b4, b5, hm, x1, x2, x3, x4, x5⟩, hg⟩, hl⟩
  have hk := run_look hm ⟨#[43]⟩
  have hv : lookS (binaryT b1 b2 b3 b4 b5) ⟨#[43]⟩ = some (0, .agg #[.func (.func 106) #[] #[]]) := by simp [binaryT, lookS, eqS_data]
  rw [hv] at hk
  simp only [Option.map_some, Option.getD_some, Option.isSome_some] at hk
  have HL := Lib.hid hl
  clear hm hl hv x1 x2 x3 x4 x5
  go_wp2_with fail
  refine (plus_any a b HA.out HB.out _).mono ?_
  rintro e w2 ⟨rfl, rfl⟩
  obtain ⟨r1, r2, hr⟩ := prod_ex (ovf (a + b))
  rw [hr, pair]
  have HR := Lib.hid hr
  clear hr hk
  go_wp2_with fail
  go_ret2
  exact ⟨ret_pair rfl HR.out, HL.out.alloc HL.out.size _⟩
theorem Binary_minus (a b : Int) (ha : inR a) (hb : inR b) (w : World) : Calls Tryz.prog 66 #[.string ⟨#[45]⟩, .int .i64 a, .int .i64 b] w fun e w' => e = .returned (pair (ovf (a - b))) ∧ Below w.heap.size w w' := by
  have HA := Lib.hid ha
  have HB := Lib.hid hb
  clear ha hb
  go_enter Tryz.func66, Tryz.ntmps66
  go_wp2_with fail
  refine (binary_any _).mono ?_
  rintro e w1 ⟨⟨g, rfl, ⟨b1, b2, b3, b4, b5, hm, x1, x2, x3, x4, x5⟩, hg⟩, hl⟩
  have hk := run_look hm ⟨#[45]⟩
  have hv : lookS (binaryT b1 b2 b3 b4 b5) ⟨#[45]⟩ = some (1, .agg #[.func (.func 100) #[] #[]]) := by simp [binaryT, lookS, eqS_data]
  rw [hv] at hk
  simp only [Option.map_some, Option.getD_some, Option.isSome_some] at hk
  have HL := Lib.hid hl
  clear hm hl hv x1 x2 x3 x4 x5
  go_wp2_with fail
  refine (minus_any a b HA.out HB.out _).mono ?_
  rintro e w2 ⟨rfl, rfl⟩
  obtain ⟨r1, r2, hr⟩ := prod_ex (ovf (a - b))
  rw [hr, pair]
  have HR := Lib.hid hr
  clear hr hk
  go_wp2_with fail
  go_ret2
  exact ⟨ret_pair rfl HR.out, HL.out.alloc HL.out.size _⟩
theorem Binary_times (a b : Int) (ha : inR a) (hb : inR b) (w : World) : Calls Tryz.prog 66 #[.string ⟨#[42]⟩, .int .i64 a, .int .i64 b] w fun e w' => e = .returned (pair (ovf (a * b))) ∧ Below w.heap.size w w' := by
  have HA := Lib.hid ha
  have HB := Lib.hid hb
  clear ha hb
  go_enter Tryz.func66, Tryz.ntmps66
  go_wp2_with fail
  refine (binary_any _).mono ?_
  rintro e w1 ⟨⟨g, rfl, ⟨b1, b2, b3, b4, b5, hm, x1, x2, x3, x4, x5⟩, hg⟩, hl⟩
  have hk := run_look hm ⟨#[42]⟩
  have hv : lookS (binaryT b1 b2 b3 b4 b5) ⟨#[42]⟩ = some (2, .agg #[.func (.func 107) #[] #[]]) := by simp [binaryT, lookS, eqS_data]
  rw [hv] at hk
  simp only [Option.map_some, Option.getD_some, Option.isSome_some] at hk
  have HL := Lib.hid hl
  clear hm hl hv x1 x2 x3 x4 x5
  go_wp2_with fail
  refine (times_any a b HA.out HB.out _).mono ?_
  rintro e w2 ⟨rfl, rfl⟩
  obtain ⟨r1, r2, hr⟩ := prod_ex (ovf (a * b))
  rw [hr, pair]
  have HR := Lib.hid hr
  clear hr hk
  go_wp2_with fail
  go_ret2
  exact ⟨ret_pair rfl HR.out, HL.out.alloc HL.out.size _⟩
theorem Binary_quot (a b : Int) (ha : inR a) (hb : inR b) (w : World) : Calls Tryz.prog 66 #[.string ⟨#[47, 47]⟩, .int .i64 a, .int .i64 b] w fun e w' => e = .returned (pair (quo a b)) ∧ Below w.heap.size w w' := by
  have HA := Lib.hid ha
  have HB := Lib.hid hb
  clear ha hb
  go_enter Tryz.func66, Tryz.ntmps66
  go_wp2_with fail
  refine (binary_any _).mono ?_
  rintro e w1 ⟨⟨g, rfl, ⟨b1, b2, b3, b4, b5, hm, x1, x2, x3, x4, x5⟩, hg⟩, hl⟩
  have hk := run_look hm ⟨#[47, 47]⟩
  have hv : lookS (binaryT b1 b2 b3 b4 b5) ⟨#[47, 47]⟩ = some (3, .agg #[.func (.func 108) #[] #[]]) := by simp [binaryT, lookS, eqS_data]
  rw [hv] at hk
  simp only [Option.map_some, Option.getD_some, Option.isSome_some] at hk
  have HL := Lib.hid hl
  clear hm hl hv x1 x2 x3 x4 x5
  go_wp2_with fail
  refine (quot_any a b HA.out HB.out _).mono ?_
  rintro e w2 ⟨rfl, rfl⟩
  obtain ⟨r1, r2, hr⟩ := prod_ex (quo a b)
  rw [hr, pair]
  have HR := Lib.hid hr
  clear hr hk
  go_wp2_with fail
  go_ret2
  exact ⟨ret_pair rfl HR.out, HL.out.alloc HL.out.size _⟩
theorem Binary_rem (a b : Int) (ha : inR a) (hb : inR b) (w : World) : Calls Tryz.prog 66 #[.string ⟨#[114, 101, 109]⟩, .int .i64 a, .int .i64 b] w fun e w' => e = .returned (pair (rmd a b)) ∧ Below w.heap.size w w' := by
  have HA := Lib.hid ha
  have HB := Lib.hid hb
  clear ha hb
  go_enter Tryz.func66, Tryz.ntmps66
  go_wp2_with fail
  refine (binary_any _).mono ?_
  rintro e w1 ⟨⟨g, rfl, ⟨b1, b2, b3, b4, b5, hm, x1, x2, x3, x4, x5⟩, hg⟩, hl⟩
  have hk := run_look hm ⟨#[114, 101, 109]⟩
  have hv : lookS (binaryT b1 b2 b3 b4 b5) ⟨#[114, 101, 109]⟩ = some (4, .agg #[.func (.func 109) #[] #[]]) := by simp [binaryT, lookS, eqS_data]
  rw [hv] at hk
  simp only [Option.map_some, Option.getD_some, Option.isSome_some] at hk
  have HL := Lib.hid hl
  clear hm hl hv x1 x2 x3 x4 x5
  go_wp2_with fail
  refine (rem_any a b _).mono ?_
  rintro e w2 ⟨rfl, rfl⟩
  obtain ⟨r1, r2, hr⟩ := prod_ex (rmd a b)
  rw [hr, pair]
  have HR := Lib.hid hr
  clear hr hk
  go_wp2_with fail
  go_ret2
  exact ⟨ret_pair rfl HR.out, HL.out.alloc HL.out.size _⟩
theorem Binary_div (a b : Int) (ha : inR a) (hb : inR b) (w : World) : Calls Tryz.prog 66 #[.string ⟨#[100, 105, 118]⟩, .int .i64 a, .int .i64 b] w fun e w' => e = .returned (pair (flr a b)) ∧ Below w.heap.size w w' := by
  have HA := Lib.hid ha
  have HB := Lib.hid hb
  clear ha hb
  go_enter Tryz.func66, Tryz.ntmps66
  go_wp2_with fail
  refine (binary_any _).mono ?_
  rintro e w1 ⟨⟨g, rfl, ⟨b1, b2, b3, b4, b5, hm, x1, x2, x3, x4, x5⟩, hg⟩, hl⟩
  have hk := run_look hm ⟨#[100, 105, 118]⟩
  have hv : lookS (binaryT b1 b2 b3 b4 b5) ⟨#[100, 105, 118]⟩ = some (5, .agg #[.func (.func 110) #[] #[]]) := by simp [binaryT, lookS, eqS_data]
  rw [hv] at hk
  simp only [Option.map_some, Option.getD_some, Option.isSome_some] at hk
  have HL := Lib.hid hl
  clear hm hl hv x1 x2 x3 x4 x5
  go_wp2_with fail
  refine (floor_any a b HA.out HB.out _).mono ?_
  rintro e w2 ⟨rfl, rfl⟩
  obtain ⟨r1, r2, hr⟩ := prod_ex (flr a b)
  rw [hr, pair]
  have HR := Lib.hid hr
  clear hr hk
  go_wp2_with fail
  go_ret2
  exact ⟨ret_pair rfl HR.out, HL.out.alloc HL.out.size _⟩
theorem Binary_mod (a b : Int) (ha : inR a) (hb : inR b) (w : World) : Calls Tryz.prog 66 #[.string ⟨#[109, 111, 100]⟩, .int .i64 a, .int .i64 b] w fun e w' => e = .returned (pair (mdl a b)) ∧ Below w.heap.size w w' := by
  have HA := Lib.hid ha
  have HB := Lib.hid hb
  clear ha hb
  go_enter Tryz.func66, Tryz.ntmps66
  go_wp2_with fail
  refine (binary_any _).mono ?_
  rintro e w1 ⟨⟨g, rfl, ⟨b1, b2, b3, b4, b5, hm, x1, x2, x3, x4, x5⟩, hg⟩, hl⟩
  have hk := run_look hm ⟨#[109, 111, 100]⟩
  have hv : lookS (binaryT b1 b2 b3 b4 b5) ⟨#[109, 111, 100]⟩ = some (6, .agg #[.func (.func 111) #[] #[]]) := by simp [binaryT, lookS, eqS_data]
  rw [hv] at hk
  simp only [Option.map_some, Option.getD_some, Option.isSome_some] at hk
  have HL := Lib.hid hl
  clear hm hl hv x1 x2 x3 x4 x5
  go_wp2_with fail
  refine (mod_any a b HB.out _).mono ?_
  rintro e w2 ⟨rfl, rfl⟩
  obtain ⟨r1, r2, hr⟩ := prod_ex (mdl a b)
  rw [hr, pair]
  have HR := Lib.hid hr
  clear hr hk
  go_wp2_with fail
  go_ret2
  exact ⟨ret_pair rfl HR.out, HL.out.alloc HL.out.size _⟩
theorem Binary_min (a b : Int) (ha : inR a) (hb : inR b) (w : World) : Calls Tryz.prog 66 #[.string ⟨#[109, 105, 110]⟩, .int .i64 a, .int .i64 b] w fun e w' => e = .returned (pair ((min a b, 0))) ∧ Below w.heap.size w w' := by
  have HA := Lib.hid ha
  have HB := Lib.hid hb
  clear ha hb
  go_enter Tryz.func66, Tryz.ntmps66
  go_wp2_with fail
  refine (binary_any _).mono ?_
  rintro e w1 ⟨⟨g, rfl, ⟨b1, b2, b3, b4, b5, hm, x1, x2, x3, x4, x5⟩, hg⟩, hl⟩
  have hk := run_look hm ⟨#[109, 105, 110]⟩
  have hv : lookS (binaryT b1 b2 b3 b4 b5) ⟨#[109, 105, 110]⟩ = some (7, exF b1) := by simp [binaryT, lookS, eqS_data]
  rw [hv] at hk
  simp only [Option.map_some, Option.getD_some, Option.isSome_some, exF] at hk
  have HL := Lib.hid hl
  have HX := Lib.hid x1
  clear hm hl hv x1 x2 x3 x4 x5
  go_wp2_with fail
  refine (min_exact b1 a b _ (HX.out.cellA _)).mono ?_
  rintro e w2 ⟨rfl, rfl⟩
  obtain ⟨r1, r2, hr⟩ := prod_ex ((min a b, 0))
  rw [hr, pair]
  have HR := Lib.hid hr
  clear hr hk
  go_wp2_with fail
  go_ret2
  exact ⟨ret_pair rfl HR.out, HL.out.alloc HL.out.size _⟩
theorem Binary_max (a b : Int) (ha : inR a) (hb : inR b) (w : World) : Calls Tryz.prog 66 #[.string ⟨#[109, 97, 120]⟩, .int .i64 a, .int .i64 b] w fun e w' => e = .returned (pair ((max a b, 0))) ∧ Below w.heap.size w w' := by
  have HA := Lib.hid ha
  have HB := Lib.hid hb
  clear ha hb
  go_enter Tryz.func66, Tryz.ntmps66
  go_wp2_with fail
  refine (binary_any _).mono ?_
  rintro e w1 ⟨⟨g, rfl, ⟨b1, b2, b3, b4, b5, hm, x1, x2, x3, x4, x5⟩, hg⟩, hl⟩
  have hk := run_look hm ⟨#[109, 97, 120]⟩
  have hv : lookS (binaryT b1 b2 b3 b4 b5) ⟨#[109, 97, 120]⟩ = some (8, exF b2) := by simp [binaryT, lookS, eqS_data]
  rw [hv] at hk
  simp only [Option.map_some, Option.getD_some, Option.isSome_some, exF] at hk
  have HL := Lib.hid hl
  have HX := Lib.hid x2
  clear hm hl hv x1 x2 x3 x4 x5
  go_wp2_with fail
  refine (max_exact b2 a b _ (HX.out.cellA _)).mono ?_
  rintro e w2 ⟨rfl, rfl⟩
  obtain ⟨r1, r2, hr⟩ := prod_ex ((max a b, 0))
  rw [hr, pair]
  have HR := Lib.hid hr
  clear hr hk
  go_wp2_with fail
  go_ret2
  exact ⟨ret_pair rfl HR.out, HL.out.alloc HL.out.size _⟩
theorem Binary_right (a b : Int) (ha : inR a) (hb : inR b) (w : World) : Calls Tryz.prog 66 #[.string ⟨#[62, 62]⟩, .int .i64 a, .int .i64 b] w fun e w' => e = .returned (pair (shr a b)) ∧ Below w.heap.size w w' := by
  have HA := Lib.hid ha
  have HB := Lib.hid hb
  clear ha hb
  go_enter Tryz.func66, Tryz.ntmps66
  go_wp2_with fail
  refine (binary_any _).mono ?_
  rintro e w1 ⟨⟨g, rfl, ⟨b1, b2, b3, b4, b5, hm, x1, x2, x3, x4, x5⟩, hg⟩, hl⟩
  have hk := run_look hm ⟨#[62, 62]⟩
  have hv : lookS (binaryT b1 b2 b3 b4 b5) ⟨#[62, 62]⟩ = some (9, .agg #[.func (.func 114) #[] #[]]) := by simp [binaryT, lookS, eqS_data]
  rw [hv] at hk
  simp only [Option.map_some, Option.getD_some, Option.isSome_some] at hk
  have HL := Lib.hid hl
  clear hm hl hv x1 x2 x3 x4 x5
  go_wp2_with fail
  refine (right_any a b _).mono ?_
  rintro e w2 ⟨rfl, rfl⟩
  obtain ⟨r1, r2, hr⟩ := prod_ex (shr a b)
  rw [hr, pair]
  have HR := Lib.hid hr
  clear hr hk
  go_wp2_with fail
  go_ret2
  exact ⟨ret_pair rfl HR.out, HL.out.alloc HL.out.size _⟩
theorem Binary_left (a b : Int) (ha : inR a) (hb : inR b) (w : World) : Calls Tryz.prog 66 #[.string ⟨#[60, 60]⟩, .int .i64 a, .int .i64 b] w fun e w' => e = .returned (pair (shl a b)) ∧ Below w.heap.size w w' := by
  have HA := Lib.hid ha
  have HB := Lib.hid hb
  clear ha hb
  go_enter Tryz.func66, Tryz.ntmps66
  go_wp2_with fail
  refine (binary_any _).mono ?_
  rintro e w1 ⟨⟨g, rfl, ⟨b1, b2, b3, b4, b5, hm, x1, x2, x3, x4, x5⟩, hg⟩, hl⟩
  have hk := run_look hm ⟨#[60, 60]⟩
  have hv : lookS (binaryT b1 b2 b3 b4 b5) ⟨#[60, 60]⟩ = some (10, .agg #[.func (.func 115) #[] #[]]) := by simp [binaryT, lookS, eqS_data]
  rw [hv] at hk
  simp only [Option.map_some, Option.getD_some, Option.isSome_some] at hk
  have HL := Lib.hid hl
  clear hm hl hv x1 x2 x3 x4 x5
  go_wp2_with fail
  refine (left_any a b _).mono ?_
  rintro e w2 ⟨rfl, rfl⟩
  obtain ⟨r1, r2, hr⟩ := prod_ex (shl a b)
  rw [hr, pair]
  have HR := Lib.hid hr
  clear hr hk
  go_wp2_with fail
  go_ret2
  exact ⟨ret_pair rfl HR.out, HL.out.alloc HL.out.size _⟩
theorem Binary_and (a b : Int) (ha : inR a) (hb : inR b) (w : World) : Calls Tryz.prog 66 #[.string ⟨#[47, 92]⟩, .int .i64 a, .int .i64 b] w fun e w' => e = .returned (pair ((bits BinOp.and IntKind.i64 a b, 0))) ∧ Below w.heap.size w w' := by
  have HA := Lib.hid ha
  have HB := Lib.hid hb
  clear ha hb
  go_enter Tryz.func66, Tryz.ntmps66
  go_wp2_with fail
  refine (binary_any _).mono ?_
  rintro e w1 ⟨⟨g, rfl, ⟨b1, b2, b3, b4, b5, hm, x1, x2, x3, x4, x5⟩, hg⟩, hl⟩
  have hk := run_look hm ⟨#[47, 92]⟩
  have hv : lookS (binaryT b1 b2 b3 b4 b5) ⟨#[47, 92]⟩ = some (11, exF b3) := by simp [binaryT, lookS, eqS_data]
  rw [hv] at hk
  simp only [Option.map_some, Option.getD_some, Option.isSome_some, exF] at hk
  have HL := Lib.hid hl
  have HX := Lib.hid x3
  clear hm hl hv x1 x2 x3 x4 x5
  go_wp2_with fail
  refine (and_exact b3 a b _ (HX.out.cellA _)).mono ?_
  rintro e w2 ⟨rfl, rfl⟩
  obtain ⟨r1, r2, hr⟩ := prod_ex ((bits BinOp.and IntKind.i64 a b, 0))
  rw [hr, pair]
  have HR := Lib.hid hr
  clear hr hk
  go_wp2_with fail
  go_ret2
  exact ⟨ret_pair rfl HR.out, HL.out.alloc HL.out.size _⟩
theorem Binary_or (a b : Int) (ha : inR a) (hb : inR b) (w : World) : Calls Tryz.prog 66 #[.string ⟨#[92, 47]⟩, .int .i64 a, .int .i64 b] w fun e w' => e = .returned (pair ((bits BinOp.or IntKind.i64 a b, 0))) ∧ Below w.heap.size w w' := by
  have HA := Lib.hid ha
  have HB := Lib.hid hb
  clear ha hb
  go_enter Tryz.func66, Tryz.ntmps66
  go_wp2_with fail
  refine (binary_any _).mono ?_
  rintro e w1 ⟨⟨g, rfl, ⟨b1, b2, b3, b4, b5, hm, x1, x2, x3, x4, x5⟩, hg⟩, hl⟩
  have hk := run_look hm ⟨#[92, 47]⟩
  have hv : lookS (binaryT b1 b2 b3 b4 b5) ⟨#[92, 47]⟩ = some (12, exF b4) := by simp [binaryT, lookS, eqS_data]
  rw [hv] at hk
  simp only [Option.map_some, Option.getD_some, Option.isSome_some, exF] at hk
  have HL := Lib.hid hl
  have HX := Lib.hid x4
  clear hm hl hv x1 x2 x3 x4 x5
  go_wp2_with fail
  refine (or_exact b4 a b _ (HX.out.cellA _)).mono ?_
  rintro e w2 ⟨rfl, rfl⟩
  obtain ⟨r1, r2, hr⟩ := prod_ex ((bits BinOp.or IntKind.i64 a b, 0))
  rw [hr, pair]
  have HR := Lib.hid hr
  clear hr hk
  go_wp2_with fail
  go_ret2
  exact ⟨ret_pair rfl HR.out, HL.out.alloc HL.out.size _⟩
theorem Binary_xor (a b : Int) (ha : inR a) (hb : inR b) (w : World) : Calls Tryz.prog 66 #[.string ⟨#[120, 111, 114]⟩, .int .i64 a, .int .i64 b] w fun e w' => e = .returned (pair ((bits BinOp.xor IntKind.i64 a b, 0))) ∧ Below w.heap.size w w' := by
  have HA := Lib.hid ha
  have HB := Lib.hid hb
  clear ha hb
  go_enter Tryz.func66, Tryz.ntmps66
  go_wp2_with fail
  refine (binary_any _).mono ?_
  rintro e w1 ⟨⟨g, rfl, ⟨b1, b2, b3, b4, b5, hm, x1, x2, x3, x4, x5⟩, hg⟩, hl⟩
  have hk := run_look hm ⟨#[120, 111, 114]⟩
  have hv : lookS (binaryT b1 b2 b3 b4 b5) ⟨#[120, 111, 114]⟩ = some (13, exF b5) := by simp [binaryT, lookS, eqS_data]
  rw [hv] at hk
  simp only [Option.map_some, Option.getD_some, Option.isSome_some, exF] at hk
  have HL := Lib.hid hl
  have HX := Lib.hid x5
  clear hm hl hv x1 x2 x3 x4 x5
  go_wp2_with fail
  refine (xor_exact b5 a b _ (HX.out.cellA _)).mono ?_
  rintro e w2 ⟨rfl, rfl⟩
  obtain ⟨r1, r2, hr⟩ := prod_ex ((bits BinOp.xor IntKind.i64 a b, 0))
  rw [hr, pair]
  have HR := Lib.hid hr
  clear hr hk
  go_wp2_with fail
  go_ret2
  exact ⟨ret_pair rfl HR.out, HL.out.alloc HL.out.size _⟩
theorem Binary_pow (a b : Int) (ha : inR a) (hb : inR b) (w : World) : Calls Tryz.prog 66 #[.string ⟨#[94]⟩, .int .i64 a, .int .i64 b] w fun e w' => e = .returned (pair (pw a b)) ∧ Below w.heap.size w w' := by
  have HA := Lib.hid ha
  have HB := Lib.hid hb
  clear ha hb
  go_enter Tryz.func66, Tryz.ntmps66
  go_wp2_with fail
  refine (binary_any _).mono ?_
  rintro e w1 ⟨⟨g, rfl, ⟨b1, b2, b3, b4, b5, hm, x1, x2, x3, x4, x5⟩, hg⟩, hl⟩
  have hk := run_look hm ⟨#[94]⟩
  have hv : lookS (binaryT b1 b2 b3 b4 b5) ⟨#[94]⟩ = some (14, .agg #[.func (.func 119) #[] #[]]) := by simp [binaryT, lookS, eqS_data]
  rw [hv] at hk
  simp only [Option.map_some, Option.getD_some, Option.isSome_some] at hk
  have HL := Lib.hid hl
  clear hm hl hv x1 x2 x3 x4 x5
  go_wp2_with fail
  refine (power_any a b HA.out HB.out _).mono ?_
  rintro e w2 ⟨rfl, rfl⟩
  obtain ⟨r1, r2, hr⟩ := prod_ex (pw a b)
  rw [hr, pair]
  have HR := Lib.hid hr
  clear hr hk
  go_wp2_with fail
  go_ret2
  exact ⟨ret_pair rfl HR.out, HL.out.alloc HL.out.size _⟩
theorem Binary_gcd (a b : Int) (ha : inR a) (hb : inR b) (w : World) : Calls Tryz.prog 66 #[.string ⟨#[103, 99, 100]⟩, .int .i64 a, .int .i64 b] w fun e w' => e = .returned (pair (gcdE a b)) ∧ Below w.heap.size w w' := by
  have HA := Lib.hid ha
  have HB := Lib.hid hb
  clear ha hb
  go_enter Tryz.func66, Tryz.ntmps66
  go_wp2_with fail
  refine (binary_any _).mono ?_
  rintro e w1 ⟨⟨g, rfl, ⟨b1, b2, b3, b4, b5, hm, x1, x2, x3, x4, x5⟩, hg⟩, hl⟩
  have hk := run_look hm ⟨#[103, 99, 100]⟩
  have hv : lookS (binaryT b1 b2 b3 b4 b5) ⟨#[103, 99, 100]⟩ = some (15, .agg #[.func (.func 120) #[] #[]]) := by simp [binaryT, lookS, eqS_data]
  rw [hv] at hk
  simp only [Option.map_some, Option.getD_some, Option.isSome_some] at hk
  have HL := Lib.hid hl
  clear hm hl hv x1 x2 x3 x4 x5
  go_wp2_with fail
  refine (divisor_any a b HA.out HB.out _).mono ?_
  rintro e w2 ⟨rfl, q, rfl⟩
  obtain ⟨r1, r2, hr⟩ := prod_ex (gcdE a b)
  rw [hr, pair]
  have HR := Lib.hid hr
  clear hr hk
  go_wp2_with fail
  go_ret2
  exact ⟨ret_pair rfl HR.out, Go.below_drewN (HL.out.alloc HL.out.size _) _⟩
theorem Unary_any (x : ByteArray) (a : Int) (ha : inR a) (w : World) : Calls Tryz.prog 65 #[.string x, .int .i64 a] w fun e w' => e = .returned (pair (unS x a)) ∧ Below w.heap.size w w' := by
  by_cases h0 : x = ⟨#[45]⟩
  · subst h0
    rw [show unS ⟨#[45]⟩ a = ovf (0 - a) by simp [unS, eqS_data]]
    exact Unary_neg a ha w
  by_cases h1 : x = ⟨#[43]⟩
  · subst h1
    rw [show unS ⟨#[43]⟩ a = (a, 0) by simp [unS, eqS_data]]
    exact Unary_id a ha w
  by_cases h2 : x = ⟨#[97, 98, 115]⟩
  · subst h2
    rw [show unS ⟨#[97, 98, 115]⟩ a = absE a by simp [unS, eqS_data]]
    exact Unary_abs a ha w
  by_cases h3 : x = ⟨#[115, 105, 103, 110]⟩
  · subst h3
    rw [show unS ⟨#[115, 105, 103, 110]⟩ a = (sgn a, 0) by simp [unS, eqS_data]]
    exact Unary_sgn a ha w
  by_cases h4 : x = ⟨#[92]⟩
  · subst h4
    rw [show unS ⟨#[92]⟩ a = (bits BinOp.xor IntKind.i64 (-1) a, 0) by simp [unS, eqS_data]]
    exact Unary_not a ha w
  have HE := Lib.hid (show unS x a = (0, 4) by simp [unS, eqS_ne h0, eqS_ne h1, eqS_ne h2, eqS_ne h3, eqS_ne h4])
  have hv : ∀ b1 b2 b3, lookS (unaryT b1 b2 b3) x = none := fun _ _ _ => by simp [unaryT, lookS, eqS_ne h0, eqS_ne h1, eqS_ne h2, eqS_ne h3, eqS_ne h4]
  have HV := Lib.hid hv
  clear hv ha h0 h1 h2 h3 h4
  go_enter Tryz.func65, Tryz.ntmps65
  go_wp2_with fail
  refine (unary_any _).mono ?_
  rintro e w1 ⟨⟨g, rfl, ⟨b1, b2, b3, hm, x1, x2, x3⟩, hg⟩, hl⟩
  have hk := run_look hm x
  rw [HV.out] at hk
  simp only [Option.map_none, Option.getD_none, Option.isSome_none] at hk
  have HL := Lib.hid hl
  clear hm hl x1 x2 x3
  go_wp2_with fail
  go_ret2
  exact ⟨ret_pair rfl HE.out, HL.out.alloc HL.out.size _⟩
theorem Binary_any (x : ByteArray) (a b : Int) (ha : inR a) (hb : inR b) (w : World) : Calls Tryz.prog 66 #[.string x, .int .i64 a, .int .i64 b] w fun e w' => e = .returned (pair (binS x a b)) ∧ Below w.heap.size w w' := by
  by_cases h0 : x = ⟨#[43]⟩
  · subst h0
    rw [show binS ⟨#[43]⟩ a b = ovf (a + b) by simp [binS, eqS_data]]
    exact Binary_plus a b ha hb w
  by_cases h1 : x = ⟨#[45]⟩
  · subst h1
    rw [show binS ⟨#[45]⟩ a b = ovf (a - b) by simp [binS, eqS_data]]
    exact Binary_minus a b ha hb w
  by_cases h2 : x = ⟨#[42]⟩
  · subst h2
    rw [show binS ⟨#[42]⟩ a b = ovf (a * b) by simp [binS, eqS_data]]
    exact Binary_times a b ha hb w
  by_cases h3 : x = ⟨#[47, 47]⟩
  · subst h3
    rw [show binS ⟨#[47, 47]⟩ a b = quo a b by simp [binS, eqS_data]]
    exact Binary_quot a b ha hb w
  by_cases h4 : x = ⟨#[114, 101, 109]⟩
  · subst h4
    rw [show binS ⟨#[114, 101, 109]⟩ a b = rmd a b by simp [binS, eqS_data]]
    exact Binary_rem a b ha hb w
  by_cases h5 : x = ⟨#[100, 105, 118]⟩
  · subst h5
    rw [show binS ⟨#[100, 105, 118]⟩ a b = flr a b by simp [binS, eqS_data]]
    exact Binary_div a b ha hb w
  by_cases h6 : x = ⟨#[109, 111, 100]⟩
  · subst h6
    rw [show binS ⟨#[109, 111, 100]⟩ a b = mdl a b by simp [binS, eqS_data]]
    exact Binary_mod a b ha hb w
  by_cases h7 : x = ⟨#[109, 105, 110]⟩
  · subst h7
    rw [show binS ⟨#[109, 105, 110]⟩ a b = (min a b, 0) by simp [binS, eqS_data]]
    exact Binary_min a b ha hb w
  by_cases h8 : x = ⟨#[109, 97, 120]⟩
  · subst h8
    rw [show binS ⟨#[109, 97, 120]⟩ a b = (max a b, 0) by simp [binS, eqS_data]]
    exact Binary_max a b ha hb w
  by_cases h9 : x = ⟨#[62, 62]⟩
  · subst h9
    rw [show binS ⟨#[62, 62]⟩ a b = shr a b by simp [binS, eqS_data]]
    exact Binary_right a b ha hb w
  by_cases h10 : x = ⟨#[60, 60]⟩
  · subst h10
    rw [show binS ⟨#[60, 60]⟩ a b = shl a b by simp [binS, eqS_data]]
    exact Binary_left a b ha hb w
  by_cases h11 : x = ⟨#[47, 92]⟩
  · subst h11
    rw [show binS ⟨#[47, 92]⟩ a b = (bits BinOp.and IntKind.i64 a b, 0) by simp [binS, eqS_data]]
    exact Binary_and a b ha hb w
  by_cases h12 : x = ⟨#[92, 47]⟩
  · subst h12
    rw [show binS ⟨#[92, 47]⟩ a b = (bits BinOp.or IntKind.i64 a b, 0) by simp [binS, eqS_data]]
    exact Binary_or a b ha hb w
  by_cases h13 : x = ⟨#[120, 111, 114]⟩
  · subst h13
    rw [show binS ⟨#[120, 111, 114]⟩ a b = (bits BinOp.xor IntKind.i64 a b, 0) by simp [binS, eqS_data]]
    exact Binary_xor a b ha hb w
  by_cases h14 : x = ⟨#[94]⟩
  · subst h14
    rw [show binS ⟨#[94]⟩ a b = pw a b by simp [binS, eqS_data]]
    exact Binary_pow a b ha hb w
  by_cases h15 : x = ⟨#[103, 99, 100]⟩
  · subst h15
    rw [show binS ⟨#[103, 99, 100]⟩ a b = gcdE a b by simp [binS, eqS_data]]
    exact Binary_gcd a b ha hb w
  have HE := Lib.hid (show binS x a b = (0, 4) by simp [binS, eqS_ne h0, eqS_ne h1, eqS_ne h2, eqS_ne h3, eqS_ne h4, eqS_ne h5, eqS_ne h6, eqS_ne h7, eqS_ne h8, eqS_ne h9, eqS_ne h10, eqS_ne h11, eqS_ne h12, eqS_ne h13, eqS_ne h14, eqS_ne h15])
  have hv : ∀ b1 b2 b3 b4 b5, lookS (binaryT b1 b2 b3 b4 b5) x = none := fun _ _ _ _ _ => by simp [binaryT, lookS, eqS_ne h0, eqS_ne h1, eqS_ne h2, eqS_ne h3, eqS_ne h4, eqS_ne h5, eqS_ne h6, eqS_ne h7, eqS_ne h8, eqS_ne h9, eqS_ne h10, eqS_ne h11, eqS_ne h12, eqS_ne h13, eqS_ne h14, eqS_ne h15]
  have HV := Lib.hid hv
  clear hv ha hb h0 h1 h2 h3 h4 h5 h6 h7 h8 h9 h10 h11 h12 h13 h14 h15
  go_enter Tryz.func66, Tryz.ntmps66
  go_wp2_with fail
  refine (binary_any _).mono ?_
  rintro e w1 ⟨⟨g, rfl, ⟨b1, b2, b3, b4, b5, hm, x1, x2, x3, x4, x5⟩, hg⟩, hl⟩
  have hk := run_look hm x
  rw [HV.out] at hk
  simp only [Option.map_none, Option.getD_none, Option.isSome_none] at hk
  have HL := Lib.hid hl
  clear hm hl x1 x2 x3 x4 x5
  go_wp2_with fail
  go_ret2
  exact ⟨ret_pair rfl HE.out, HL.out.alloc HL.out.size _⟩
end Go.Proofs.YtcagaaacfcpoeaaGreat
