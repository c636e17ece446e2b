/-
  The walk of RegsExamples (f3).
-/
import Derived.Test.YteffpeokialeiaaCh
import Derived.Outline
namespace Go.Proofs.Yteffpeokialeiaa
open Go.RowKit

theorem ins_nil (w : World) : InsAt w w.heap.size none 0 [] := InsAt.nil _ _ _
set_option maxRecDepth 100000 in
set_option maxHeartbeats 2000000 in
theorem law_examples (w0 : World) : Calls Try.prog 3 #[] w0 fun e w' => e = .returned (.bool true) ∧ Below w0.heap.size w0 w' := by
  have HB0 := Lib.hid (Below.refl w0.heap.size w0)
  go_enter Try.func3, Try.ntmps3
  go_wp2_with fail
  refine (f_any (9) _).mono ?_
  rintro e x1 ⟨rfl, hb⟩
  have HB_x1 := Lib.hid (bNext HB0.out hb)
  clear hb
  go_wp2_with fail
  refine (put_any (6) (8) (0) _).mono ?_
  rintro e x2 ⟨rfl, hb⟩
  have HB_x2 := Lib.hid (bNext HB_x1.out hb)
  clear hb
  go_wp2_with fail
  refine (put_any (12) (9) (1) _).mono ?_
  rintro e x3 ⟨rfl, hb⟩
  have HB_x3 := Lib.hid (bNext HB_x2.out hb)
  clear hb
  go_wp2_with fail
  refine (put_any (12) (8) (2) _).mono ?_
  rintro e x4 ⟨rfl, hb⟩
  have HB_x4 := Lib.hid (bNext HB_x3.out hb)
  clear hb
  have IoneA : Hid (InsAt (x4.alloc (.cells #[.int .i64 15, .int .i64 9, .int .i64 0, .int .i64 0, .string ⟨#[102]⟩, .int .i64 1, .int .i64 6, .int .i64 8, .int .i64 0, .int .i64 0, .string ⟨#[]⟩, .int .i64 0, .int .i64 12, .int .i64 9, .int .i64 1, .int .i64 0, .string ⟨#[]⟩, .int .i64 0, .int .i64 12, .int .i64 8, .int .i64 2, .int .i64 0, .string ⟨#[]⟩, .int .i64 0] 23)) (x4.alloc (.cells #[.int .i64 15, .int .i64 9, .int .i64 0, .int .i64 0, .string ⟨#[102]⟩, .int .i64 1, .int .i64 6, .int .i64 8, .int .i64 0, .int .i64 0, .string ⟨#[]⟩, .int .i64 0, .int .i64 12, .int .i64 9, .int .i64 1, .int .i64 0, .string ⟨#[]⟩, .int .i64 0, .int .i64 12, .int .i64 8, .int .i64 2, .int .i64 0, .string ⟨#[]⟩, .int .i64 0] 23)).heap.size (some ⟨x4.heap.size, 0, none⟩) 4 oneA) := Lib.hid (lit_ins x4 oneA 4 rfl (by omega))
  have hb := bAlloc x4 (.cells #[.int .i64 15, .int .i64 9, .int .i64 0, .int .i64 0, .string ⟨#[102]⟩, .int .i64 1, .int .i64 6, .int .i64 8, .int .i64 0, .int .i64 0, .string ⟨#[]⟩, .int .i64 0, .int .i64 12, .int .i64 9, .int .i64 1, .int .i64 0, .string ⟨#[]⟩, .int .i64 0, .int .i64 12, .int .i64 8, .int .i64 2, .int .i64 0, .string ⟨#[]⟩, .int .i64 0] 23)
  have HB_y5 := Lib.hid (bNext HB_x4.out hb)
  clear hb
  go_wp2_with fail
  generalize hw_y5 : (x4.alloc (.cells #[.int .i64 15, .int .i64 9, .int .i64 0, .int .i64 0, .string ⟨#[102]⟩, .int .i64 1, .int .i64 6, .int .i64 8, .int .i64 0, .int .i64 0, .string ⟨#[]⟩, .int .i64 0, .int .i64 12, .int .i64 9, .int .i64 1, .int .i64 0, .string ⟨#[]⟩, .int .i64 0, .int .i64 12, .int .i64 8, .int .i64 2, .int .i64 0, .string ⟨#[]⟩, .int .i64 0] 23)) = y5 at HB_y5 IoneA ⊢
  clear hw_y5
  go_wp2_with fail
  refine (f_any (3) _).mono ?_
  rintro e x6 ⟨rfl, hb⟩
  have HB_x6 := Lib.hid (bNext HB_y5.out hb)
  have IoneAx6 := Lib.hid (IoneA.out.next hb)
  clear hb
  go_wp2_with fail
  refine (put_any (6) (4) (0) _).mono ?_
  rintro e x7 ⟨rfl, hb⟩
  have HB_x7 := Lib.hid (bNext HB_x6.out hb)
  have IoneAx7 := Lib.hid (IoneAx6.out.next hb)
  clear hb
  go_wp2_with fail
  refine (put_any (12) (3) (1) _).mono ?_
  rintro e x8 ⟨rfl, hb⟩
  have HB_x8 := Lib.hid (bNext HB_x7.out hb)
  have IoneAx8 := Lib.hid (IoneAx7.out.next hb)
  clear hb
  go_wp2_with fail
  refine (put_any (12) (4) (2) _).mono ?_
  rintro e x9 ⟨rfl, hb⟩
  have HB_x9 := Lib.hid (bNext HB_x8.out hb)
  have IoneAx9 := Lib.hid (IoneAx8.out.next hb)
  clear hb
  have IoneB : Hid (InsAt (x9.alloc (.cells #[.int .i64 15, .int .i64 3, .int .i64 0, .int .i64 0, .string ⟨#[102]⟩, .int .i64 1, .int .i64 6, .int .i64 4, .int .i64 0, .int .i64 0, .string ⟨#[]⟩, .int .i64 0, .int .i64 12, .int .i64 3, .int .i64 1, .int .i64 0, .string ⟨#[]⟩, .int .i64 0, .int .i64 12, .int .i64 4, .int .i64 2, .int .i64 0, .string ⟨#[]⟩, .int .i64 0] 23)) (x9.alloc (.cells #[.int .i64 15, .int .i64 3, .int .i64 0, .int .i64 0, .string ⟨#[102]⟩, .int .i64 1, .int .i64 6, .int .i64 4, .int .i64 0, .int .i64 0, .string ⟨#[]⟩, .int .i64 0, .int .i64 12, .int .i64 3, .int .i64 1, .int .i64 0, .string ⟨#[]⟩, .int .i64 0, .int .i64 12, .int .i64 4, .int .i64 2, .int .i64 0, .string ⟨#[]⟩, .int .i64 0] 23)).heap.size (some ⟨x9.heap.size, 0, none⟩) 4 oneB) := Lib.hid (lit_ins x9 oneB 4 rfl (by omega))
  have hb := bAlloc x9 (.cells #[.int .i64 15, .int .i64 3, .int .i64 0, .int .i64 0, .string ⟨#[102]⟩, .int .i64 1, .int .i64 6, .int .i64 4, .int .i64 0, .int .i64 0, .string ⟨#[]⟩, .int .i64 0, .int .i64 12, .int .i64 3, .int .i64 1, .int .i64 0, .string ⟨#[]⟩, .int .i64 0, .int .i64 12, .int .i64 4, .int .i64 2, .int .i64 0, .string ⟨#[]⟩, .int .i64 0] 23)
  have HB_y10 := Lib.hid (bNext HB_x9.out hb)
  have IoneAy10 := Lib.hid (IoneAx9.out.next hb)
  clear hb
  go_wp2_with fail
  generalize hw_y10 : (x9.alloc (.cells #[.int .i64 15, .int .i64 3, .int .i64 0, .int .i64 0, .string ⟨#[102]⟩, .int .i64 1, .int .i64 6, .int .i64 4, .int .i64 0, .int .i64 0, .string ⟨#[]⟩, .int .i64 0, .int .i64 12, .int .i64 3, .int .i64 1, .int .i64 0, .string ⟨#[]⟩, .int .i64 0, .int .i64 12, .int .i64 4, .int .i64 2, .int .i64 0, .string ⟨#[]⟩, .int .i64 0] 23)) = y10 at HB_y10 IoneAy10 IoneB ⊢
  clear hw_y10
  refine (gives_any _ _ 4 4 4 oneA oneB (2) (2) _ IoneAy10.out IoneB.out (by omega) one1 one2 one3).mono ?_
  rintro e z11 ⟨rfl, hb⟩
  have HB_z11 := Lib.hid (bNext HB_y10.out hb)
  clear hb
  go_wp2_with fail
  refine (put_any (11) (7) (8) _).mono ?_
  rintro e x12 ⟨rfl, hb⟩
  have HB_x12 := Lib.hid (bNext HB_z11.out hb)
  clear hb
  have ItwoA : Hid (InsAt (x12.alloc (.cells #[.int .i64 11, .int .i64 7, .int .i64 8, .int .i64 0, .string ⟨#[]⟩, .int .i64 0, .int .i64 21, .int .i64 0, .int .i64 0, .int .i64 0, .string ⟨#[]⟩, .int .i64 0] 23)) (x12.alloc (.cells #[.int .i64 11, .int .i64 7, .int .i64 8, .int .i64 0, .string ⟨#[]⟩, .int .i64 0, .int .i64 21, .int .i64 0, .int .i64 0, .int .i64 0, .string ⟨#[]⟩, .int .i64 0] 23)).heap.size (some ⟨x12.heap.size, 0, none⟩) 2 twoA) := Lib.hid (lit_ins x12 twoA 2 rfl (by omega))
  have hb := bAlloc x12 (.cells #[.int .i64 11, .int .i64 7, .int .i64 8, .int .i64 0, .string ⟨#[]⟩, .int .i64 0, .int .i64 21, .int .i64 0, .int .i64 0, .int .i64 0, .string ⟨#[]⟩, .int .i64 0] 23)
  have HB_y13 := Lib.hid (bNext HB_x12.out hb)
  clear hb
  go_wp2_with fail
  generalize hw_y13 : (x12.alloc (.cells #[.int .i64 11, .int .i64 7, .int .i64 8, .int .i64 0, .string ⟨#[]⟩, .int .i64 0, .int .i64 21, .int .i64 0, .int .i64 0, .int .i64 0, .string ⟨#[]⟩, .int .i64 0] 23)) = y13 at HB_y13 ItwoA ⊢
  clear hw_y13
  go_wp2_with fail
  refine (put_any (11) (1) (2) _).mono ?_
  rintro e x14 ⟨rfl, hb⟩
  have HB_x14 := Lib.hid (bNext HB_y13.out hb)
  have ItwoAx14 := Lib.hid (ItwoA.out.next hb)
  clear hb
  have ItwoB : Hid (InsAt (x14.alloc (.cells #[.int .i64 11, .int .i64 1, .int .i64 2, .int .i64 0, .string ⟨#[]⟩, .int .i64 0, .int .i64 21, .int .i64 0, .int .i64 0, .int .i64 0, .string ⟨#[]⟩, .int .i64 0] 23)) (x14.alloc (.cells #[.int .i64 11, .int .i64 1, .int .i64 2, .int .i64 0, .string ⟨#[]⟩, .int .i64 0, .int .i64 21, .int .i64 0, .int .i64 0, .int .i64 0, .string ⟨#[]⟩, .int .i64 0] 23)).heap.size (some ⟨x14.heap.size, 0, none⟩) 2 twoB) := Lib.hid (lit_ins x14 twoB 2 rfl (by omega))
  have hb := bAlloc x14 (.cells #[.int .i64 11, .int .i64 1, .int .i64 2, .int .i64 0, .string ⟨#[]⟩, .int .i64 0, .int .i64 21, .int .i64 0, .int .i64 0, .int .i64 0, .string ⟨#[]⟩, .int .i64 0] 23)
  have HB_y15 := Lib.hid (bNext HB_x14.out hb)
  have ItwoAy15 := Lib.hid (ItwoAx14.out.next hb)
  clear hb
  go_wp2_with fail
  generalize hw_y15 : (x14.alloc (.cells #[.int .i64 11, .int .i64 1, .int .i64 2, .int .i64 0, .string ⟨#[]⟩, .int .i64 0, .int .i64 21, .int .i64 0, .int .i64 0, .int .i64 0, .string ⟨#[]⟩, .int .i64 0] 23)) = y15 at HB_y15 ItwoAy15 ItwoB ⊢
  clear hw_y15
  refine (gives_any _ _ 2 2 2 twoA twoB (0) (2) _ ItwoAy15.out ItwoB.out (by omega) two1 two2 two3).mono ?_
  rintro e z16 ⟨rfl, hb⟩
  have HB_z16 := Lib.hid (bNext HB_y15.out hb)
  clear hb
  go_wp2_with fail
  refine (n_any (3) (1) _).mono ?_
  rintro e x17 ⟨rfl, hb⟩
  have HB_x17 := Lib.hid (bNext HB_z16.out hb)
  clear hb
  go_wp2_with fail
  refine (n_any (9) (2) _).mono ?_
  rintro e x18 ⟨rfl, hb⟩
  have HB_x18 := Lib.hid (bNext HB_x17.out hb)
  clear hb
  go_wp2_with fail
  refine (put_any (12) (9) (5) _).mono ?_
  rintro e x19 ⟨rfl, hb⟩
  have HB_x19 := Lib.hid (bNext HB_x18.out hb)
  clear hb
  have IthreeA : Hid (InsAt (x19.alloc (.cells #[.int .i64 13, .int .i64 0, .int .i64 3, .int .i64 1, .string ⟨#[]⟩, .int .i64 0, .int .i64 13, .int .i64 0, .int .i64 9, .int .i64 2, .string ⟨#[]⟩, .int .i64 0, .int .i64 12, .int .i64 9, .int .i64 5, .int .i64 0, .string ⟨#[]⟩, .int .i64 0] 23)) (x19.alloc (.cells #[.int .i64 13, .int .i64 0, .int .i64 3, .int .i64 1, .string ⟨#[]⟩, .int .i64 0, .int .i64 13, .int .i64 0, .int .i64 9, .int .i64 2, .string ⟨#[]⟩, .int .i64 0, .int .i64 12, .int .i64 9, .int .i64 5, .int .i64 0, .string ⟨#[]⟩, .int .i64 0] 23)).heap.size (some ⟨x19.heap.size, 0, none⟩) 3 threeA) := Lib.hid (lit_ins x19 threeA 3 rfl (by omega))
  have hb := bAlloc x19 (.cells #[.int .i64 13, .int .i64 0, .int .i64 3, .int .i64 1, .string ⟨#[]⟩, .int .i64 0, .int .i64 13, .int .i64 0, .int .i64 9, .int .i64 2, .string ⟨#[]⟩, .int .i64 0, .int .i64 12, .int .i64 9, .int .i64 5, .int .i64 0, .string ⟨#[]⟩, .int .i64 0] 23)
  have HB_y20 := Lib.hid (bNext HB_x19.out hb)
  clear hb
  go_wp2_with fail
  generalize hw_y20 : (x19.alloc (.cells #[.int .i64 13, .int .i64 0, .int .i64 3, .int .i64 1, .string ⟨#[]⟩, .int .i64 0, .int .i64 13, .int .i64 0, .int .i64 9, .int .i64 2, .string ⟨#[]⟩, .int .i64 0, .int .i64 12, .int .i64 9, .int .i64 5, .int .i64 0, .string ⟨#[]⟩, .int .i64 0] 23)) = y20 at HB_y20 IthreeA ⊢
  clear hw_y20
  go_wp2_with fail
  refine (n_any (1) (1) _).mono ?_
  rintro e x21 ⟨rfl, hb⟩
  have HB_x21 := Lib.hid (bNext HB_y20.out hb)
  have IthreeAx21 := Lib.hid (IthreeA.out.next hb)
  clear hb
  go_wp2_with fail
  refine (n_any (1) (2) _).mono ?_
  rintro e x22 ⟨rfl, hb⟩
  have HB_x22 := Lib.hid (bNext HB_x21.out hb)
  have IthreeAx22 := Lib.hid (IthreeAx21.out.next hb)
  clear hb
  go_wp2_with fail
  refine (put_any (12) (1) (1) _).mono ?_
  rintro e x23 ⟨rfl, hb⟩
  have HB_x23 := Lib.hid (bNext HB_x22.out hb)
  have IthreeAx23 := Lib.hid (IthreeAx22.out.next hb)
  clear hb
  have IthreeB : Hid (InsAt (x23.alloc (.cells #[.int .i64 13, .int .i64 0, .int .i64 1, .int .i64 1, .string ⟨#[]⟩, .int .i64 0, .int .i64 13, .int .i64 0, .int .i64 1, .int .i64 2, .string ⟨#[]⟩, .int .i64 0, .int .i64 12, .int .i64 1, .int .i64 1, .int .i64 0, .string ⟨#[]⟩, .int .i64 0] 23)) (x23.alloc (.cells #[.int .i64 13, .int .i64 0, .int .i64 1, .int .i64 1, .string ⟨#[]⟩, .int .i64 0, .int .i64 13, .int .i64 0, .int .i64 1, .int .i64 2, .string ⟨#[]⟩, .int .i64 0, .int .i64 12, .int .i64 1, .int .i64 1, .int .i64 0, .string ⟨#[]⟩, .int .i64 0] 23)).heap.size (some ⟨x23.heap.size, 0, none⟩) 3 threeB) := Lib.hid (lit_ins x23 threeB 3 rfl (by omega))
  have hb := bAlloc x23 (.cells #[.int .i64 13, .int .i64 0, .int .i64 1, .int .i64 1, .string ⟨#[]⟩, .int .i64 0, .int .i64 13, .int .i64 0, .int .i64 1, .int .i64 2, .string ⟨#[]⟩, .int .i64 0, .int .i64 12, .int .i64 1, .int .i64 1, .int .i64 0, .string ⟨#[]⟩, .int .i64 0] 23)
  have HB_y24 := Lib.hid (bNext HB_x23.out hb)
  have IthreeAy24 := Lib.hid (IthreeAx23.out.next hb)
  clear hb
  go_wp2_with fail
  generalize hw_y24 : (x23.alloc (.cells #[.int .i64 13, .int .i64 0, .int .i64 1, .int .i64 1, .string ⟨#[]⟩, .int .i64 0, .int .i64 13, .int .i64 0, .int .i64 1, .int .i64 2, .string ⟨#[]⟩, .int .i64 0, .int .i64 12, .int .i64 1, .int .i64 1, .int .i64 0, .string ⟨#[]⟩, .int .i64 0] 23)) = y24 at HB_y24 IthreeAy24 IthreeB ⊢
  clear hw_y24
  refine (gives_any _ _ 3 3 3 threeA threeB (0) (1) _ IthreeAy24.out IthreeB.out (by omega) three1 three2 three3).mono ?_
  rintro e z25 ⟨rfl, hb⟩
  have HB_z25 := Lib.hid (bNext HB_y24.out hb)
  clear hb
  go_wp2_with fail
  refine (put_any (12) (2) (1) _).mono ?_
  rintro e x26 ⟨rfl, hb⟩
  have HB_x26 := Lib.hid (bNext HB_z25.out hb)
  clear hb
  have Ifour0 : Hid (InsAt (x26.alloc (.cells #[.int .i64 12, .int .i64 2, .int .i64 1, .int .i64 0, .string ⟨#[]⟩, .int .i64 0] 23)) (x26.alloc (.cells #[.int .i64 12, .int .i64 2, .int .i64 1, .int .i64 0, .string ⟨#[]⟩, .int .i64 0] 23)).heap.size (some ⟨x26.heap.size, 0, none⟩) 1 four0) := Lib.hid (lit_ins x26 four0 1 rfl (by omega))
  have hb := bAlloc x26 (.cells #[.int .i64 12, .int .i64 2, .int .i64 1, .int .i64 0, .string ⟨#[]⟩, .int .i64 0] 23)
  have HB_y27 := Lib.hid (bNext HB_x26.out hb)
  clear hb
  go_wp2_with fail
  generalize hw_y27 : (x26.alloc (.cells #[.int .i64 12, .int .i64 2, .int .i64 1, .int .i64 0, .string ⟨#[]⟩, .int .i64 0] 23)) = y27 at HB_y27 Ifour0 ⊢
  clear hw_y27
  refine (refuses_any _ 1 1 four0 (1) _ Ifour0.out (by omega) four0v).mono ?_
  rintro e z28 ⟨rfl, hb⟩
  have HB_z28 := Lib.hid (bNext HB_y27.out hb)
  clear hb
  have Ifour1 : Hid (InsAt (z28.alloc (.cells #[.int .i64 19, .int .i64 0, .int .i64 0, .int .i64 0, .string ⟨#[112]⟩, .int .i64 2] 23)) (z28.alloc (.cells #[.int .i64 19, .int .i64 0, .int .i64 0, .int .i64 0, .string ⟨#[112]⟩, .int .i64 2] 23)).heap.size (some ⟨z28.heap.size, 0, none⟩) 1 four1) := Lib.hid (lit_ins z28 four1 1 rfl (by omega))
  have hb := bAlloc z28 (.cells #[.int .i64 19, .int .i64 0, .int .i64 0, .int .i64 0, .string ⟨#[112]⟩, .int .i64 2] 23)
  have HB_y29 := Lib.hid (bNext HB_z28.out hb)
  clear hb
  go_wp2_with fail
  generalize hw_y29 : (z28.alloc (.cells #[.int .i64 19, .int .i64 0, .int .i64 0, .int .i64 0, .string ⟨#[112]⟩, .int .i64 2] 23)) = y29 at HB_y29 Ifour1 ⊢
  clear hw_y29
  refine (refuses_any _ 1 1 four1 (1) _ Ifour1.out (by omega) four1v).mono ?_
  rintro e z30 ⟨rfl, hb⟩
  have HB_z30 := Lib.hid (bNext HB_y29.out hb)
  clear hb
  go_wp2_with fail
  refine (refuses_any none 0 0 four2 (-1) _ (ins_nil _) (by omega) four2v).mono ?_
  rintro e z31 ⟨rfl, hb⟩
  have HB_z31 := Lib.hid (bNext HB_z30.out hb)
  clear hb
  go_wp2_with fail
  refine (put_any (12) (4) (3) _).mono ?_
  rintro e x32 ⟨rfl, hb⟩
  have HB_x32 := Lib.hid (bNext HB_z31.out hb)
  clear hb
  go_wp2_with fail
  refine (put_any (12) (-1) (1) _).mono ?_
  rintro e x33 ⟨rfl, hb⟩
  have HB_x33 := Lib.hid (bNext HB_x32.out hb)
  clear hb
  have IfiveA : Hid (InsAt (x33.alloc (.cells #[.int .i64 12, .int .i64 4, .int .i64 3, .int .i64 0, .string ⟨#[]⟩, .int .i64 0, .int .i64 12, .int .i64 (-1), .int .i64 1, .int .i64 0, .string ⟨#[]⟩, .int .i64 0] 23)) (x33.alloc (.cells #[.int .i64 12, .int .i64 4, .int .i64 3, .int .i64 0, .string ⟨#[]⟩, .int .i64 0, .int .i64 12, .int .i64 (-1), .int .i64 1, .int .i64 0, .string ⟨#[]⟩, .int .i64 0] 23)).heap.size (some ⟨x33.heap.size, 0, none⟩) 2 fiveA) := Lib.hid (lit_ins x33 fiveA 2 rfl (by omega))
  have hb := bAlloc x33 (.cells #[.int .i64 12, .int .i64 4, .int .i64 3, .int .i64 0, .string ⟨#[]⟩, .int .i64 0, .int .i64 12, .int .i64 (-1), .int .i64 1, .int .i64 0, .string ⟨#[]⟩, .int .i64 0] 23)
  have HB_y34 := Lib.hid (bNext HB_x33.out hb)
  clear hb
  go_wp2_with fail
  generalize hw_y34 : (x33.alloc (.cells #[.int .i64 12, .int .i64 4, .int .i64 3, .int .i64 0, .string ⟨#[]⟩, .int .i64 0, .int .i64 12, .int .i64 (-1), .int .i64 1, .int .i64 0, .string ⟨#[]⟩, .int .i64 0] 23)) = y34 at HB_y34 IfiveA ⊢
  clear hw_y34
  go_wp2_with fail
  refine (put_any (12) (4) (3) _).mono ?_
  rintro e x35 ⟨rfl, hb⟩
  have HB_x35 := Lib.hid (bNext HB_y34.out hb)
  have IfiveAx35 := Lib.hid (IfiveA.out.next hb)
  clear hb
  go_wp2_with fail
  refine (put_any (12) (-1) (1) _).mono ?_
  rintro e x36 ⟨rfl, hb⟩
  have HB_x36 := Lib.hid (bNext HB_x35.out hb)
  have IfiveAx36 := Lib.hid (IfiveAx35.out.next hb)
  clear hb
  have IfiveB : Hid (InsAt (x36.alloc (.cells #[.int .i64 12, .int .i64 4, .int .i64 3, .int .i64 0, .string ⟨#[]⟩, .int .i64 0, .int .i64 12, .int .i64 (-1), .int .i64 1, .int .i64 0, .string ⟨#[]⟩, .int .i64 0] 23)) (x36.alloc (.cells #[.int .i64 12, .int .i64 4, .int .i64 3, .int .i64 0, .string ⟨#[]⟩, .int .i64 0, .int .i64 12, .int .i64 (-1), .int .i64 1, .int .i64 0, .string ⟨#[]⟩, .int .i64 0] 23)).heap.size (some ⟨x36.heap.size, 0, none⟩) 2 fiveB) := Lib.hid (lit_ins x36 fiveB 2 rfl (by omega))
  have hb := bAlloc x36 (.cells #[.int .i64 12, .int .i64 4, .int .i64 3, .int .i64 0, .string ⟨#[]⟩, .int .i64 0, .int .i64 12, .int .i64 (-1), .int .i64 1, .int .i64 0, .string ⟨#[]⟩, .int .i64 0] 23)
  have HB_y37 := Lib.hid (bNext HB_x36.out hb)
  have IfiveAy37 := Lib.hid (IfiveAx36.out.next hb)
  clear hb
  go_wp2_with fail
  generalize hw_y37 : (x36.alloc (.cells #[.int .i64 12, .int .i64 4, .int .i64 3, .int .i64 0, .string ⟨#[]⟩, .int .i64 0, .int .i64 12, .int .i64 (-1), .int .i64 1, .int .i64 0, .string ⟨#[]⟩, .int .i64 0] 23)) = y37 at HB_y37 IfiveAy37 IfiveB ⊢
  clear hw_y37
  refine (gives_any _ _ 2 2 2 fiveA fiveB (4) (0) _ IfiveAy37.out IfiveB.out (by omega) five1 five2 five3).mono ?_
  rintro e z38 ⟨rfl, hb⟩
  have HB_z38 := Lib.hid (bNext HB_y37.out hb)
  clear hb
  go_wp2_with fail
  refine (awake_any _).mono ?_
  rintro e zz ⟨rfl, hb⟩
  have HB_zz := Lib.hid (bNext HB_z38.out hb)
  clear hb
  go_wp2_with fail
  go_ret
  exact ⟨rfl, HB_zz.out⟩
end Go.Proofs.Yteffpeokialeiaa
