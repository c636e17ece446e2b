/-
  Walk: the example of the law.
-/
import Derived.Test.YtklpghpfdeojeaaUl
import Derived.Test.YtklpghpfdeojeaaUk
import Derived.Test.YtklpghpfdeojeaaUi
import Derived.Deep.Cut
namespace Go.Proofs.Ytklpghpfdeojeaa
open Go.RowKit

def fa : F := ⟨⟨#[97]⟩, ⟨#[104, 105]⟩⟩
theorem bytes_ext {a b : ByteArray} (h : (a.toList == b.toList) = true) : a = b := by
  rw [beq_iff_eq, ByteArray.toList_eq, ByteArray.toList_eq] at h
  exact ByteArray.ext (Array.toList_inj.1 h)
theorem ex_facts : ∃ S0 S1 S2 : Sm, newV [fa] = .ok S0 ∧ openV S0 ⟨#[97]⟩ 1 ⟨#[120]⟩ 1 = .ok (S1, 2) ∧ getV S1 2 = .ok (S2, 104) ∧ errOf (readV S2 2 true) = 0 ∧ restV S2 2 true = ⟨#[105]⟩ ∧ validB S2 = true ∧ S0.files.length = 3 ∧
    (S0.opn.length ≤ 16 ∧ S1.files.length ≤ 16 ∧ S1.opn.length ≤ 16 ∧ S2.files.length ≤ 16 ∧ S2.opn.length ≤ 16) := by
  refine ⟨newS [fa], sm2 (openV (newS [fa]) ⟨#[97]⟩ 1 ⟨#[120]⟩ 1), sm2 (getV (sm2 (openV (newS [fa]) ⟨#[97]⟩ 1 ⟨#[120]⟩ 1)) 2), ?_, ?_, ?_, ?_, ?_, ?_, ?_, ?_⟩
  · kernel_rfl
  · kernel_rfl
  · kernel_rfl
  · decide +kernel
  · exact bytes_ext (by decide +kernel)
  · decide +kernel
  · decide +kernel
  · decide +kernel
set_option maxRecDepth 100000 in
set_option maxHeartbeats 4000000 in
theorem example_any (w : World) : Calls Try.prog 14 #[] w fun e w' => e = .returned (.bool true) ∧ Below w.heap.size w w' := by
  obtain ⟨S0, S1, S2, hx0, hx1, hx2, hx3, hx4, hx5, hx6, hb0, hb1, hb2, hb3, hb4⟩ := ex_facts
  have HX0 := Lib.hid hx0
  have HX1 := Lib.hid hx1
  have HX2 := Lib.hid hx2
  have HX3 := Lib.hid hx3
  have HX4 := Lib.hid hx4
  have HX5 := Lib.hid hx5
  have hl3 : ((S0.files.length : Int) == 3) = true := by rw [hx6]; rfl
  have hl0 : S0.files.length ≤ 16 := by omega
  have HL3 := Lib.hid hl3
  clear hx0 hx1 hx2 hx3 hx4 hx5 hx6 hl3
  have hfz : FilesAt (w.alloc (.cells #[.string ⟨#[97]⟩, .string ⟨#[104, 105]⟩] 35)) (w.alloc (.cells #[.string ⟨#[97]⟩, .string ⟨#[104, 105]⟩] 35)).heap.size (some ⟨w.heap.size, 0, none⟩) 1 [fa] := by
    refine ⟨⟨rfl, by omega⟩, fun _ => ⟨w.heap.size, 0, rfl, by simp, fun i x hx => ?_⟩⟩
    have hk := Blk.new w 35 #[.string ⟨#[97]⟩, .string ⟨#[104, 105]⟩]
    match i, hx with
    | 0, hx =>
      simp at hx
      subst hx
      exact ⟨hk.cell 0, hk.cell 1⟩
    | i + 1, hx => simp at hx
  have HFZ := Lib.hid hfz
  have HB0 := Lib.hid (bAlloc w (.cells #[.string ⟨#[97]⟩, .string ⟨#[104, 105]⟩] 35))
  clear hfz
  go_enter Try.func14, Try.ntmps14
  go_wp2_with fail
  refine (new_any (some ⟨w.heap.size, 0, none⟩) 1 1 [fa] _ HFZ.out ⟨by omega, fun e => by cases e⟩ (by omega)).mono ?_
  rintro e w1 ⟨⟨v', rfl, ho⟩, hb1'⟩
  rw [HX0.out] at ho ⊢
  simp only [smOf] at ho
  obtain ⟨v0, v1, rfl, o0, o1⟩ := id ho
  obtain ⟨D0, e0, rfl, -⟩ := own_form o0
  obtain ⟨D1, e1, rfl, -⟩ := own_form o1
  have HS0 := Lib.hid (OwnS.read ho (by omega) (by omega))
  have HB1 := Lib.hid (bNext HB0.out hb1')
  clear ho o0 o1 hb1'
  simp only [errOf]
  go_wp2_with fail
  have hbA := bAlloc w1 (.cells #[.slice D0 S0.files.length e0, .slice D1 S0.opn.length e1, .int .i64 S0.inp, .int .i64 S0.out, .int .i64 S0.nxt] 25)
  have HB1a := Lib.hid (bNext HB1.out hbA)
  refine (open_any _ S0 ⟨#[97]⟩ 1 ⟨#[120]⟩ 1 _ (HS0.out.next hbA)).mono ?_
  rintro e w2 ⟨⟨v', rfl, ho⟩, hb2'⟩
  rw [HX1.out] at ho ⊢
  simp only [sm2] at ho
  obtain ⟨v0, v1, rfl, o0, o1⟩ := id ho
  obtain ⟨E0, f0, rfl, -⟩ := own_form o0
  obtain ⟨E1, f1, rfl, -⟩ := own_form o1
  have HS1 := Lib.hid (OwnS.read ho (by omega) (by omega))
  have HB2 := Lib.hid (bNext HB1a.out hb2')
  have kn2 := (Blk.new w1 25 #[.slice D0 S0.files.length e0, .slice D1 S0.opn.length e1, .int .i64 S0.inp, .int .i64 S0.out, .int .i64 S0.nxt]).next hb2'
  clear ho o0 o1 hb2' hbA
  simp only [in2, errOf]
  go_wp2_with fail
  have hbA := bAlloc w2 (.cells #[.slice E0 S1.files.length f0, .slice E1 S1.opn.length f1, .int .i64 S1.inp, .int .i64 S1.out, .int .i64 S1.nxt] 25)
  have HB2a := Lib.hid (bNext HB2.out hbA)
  refine (get_any _ S1 2 _ (HS1.out.next hbA)).mono ?_
  rintro e w3 ⟨⟨v', rfl, ho⟩, hb3'⟩
  rw [HX2.out] at ho ⊢
  simp only [sm2] at ho
  obtain ⟨v0, v1, rfl, o0, o1⟩ := id ho
  obtain ⟨Y0, y0, rfl, -⟩ := own_form o0
  obtain ⟨Y1, y1, rfl, -⟩ := own_form o1
  have HO2 := Lib.hid ho
  have HB3 := Lib.hid (bNext HB2a.out hb3')
  have kn3 := (kn2.next hbA).next hb3'
  have hz12 : w1.heap.size < w2.heap.size := kn2.lt
  have kb3 := (Blk.new w2 25 #[.slice E0 S1.files.length f0, .slice E1 S1.opn.length f1, .int .i64 S1.inp, .int .i64 S1.out, .int .i64 S1.nxt]).next hb3'
  have hz3 := hb3'.size
  simp at hz3
  clear ho o0 o1 hb3' hbA kn2
  simp only [in2, errOf]
  obtain ⟨p0, p1, p2, p3, p4⟩ := smBox' kb3
  have r0 := kb3.frozen 0
  have r1 := kb3.frozen 1
  have r2 := kb3.frozen 2
  have r3 := kb3.frozen 3
  have r4 := kb3.frozen 4
  have rz := kb3.lt
  go_upto_region 4 with fail
  obtain ⟨w4, HW4⟩ : ∃ w4, Hid (w4 = ((((w3.setCell ⟨w2.heap.size, 0, none⟩ (.slice Y0 S2.files.length y0)).setCell ⟨w2.heap.size, 1, none⟩ (.slice Y1 S2.opn.length y1)).setCell ⟨w2.heap.size, 2, none⟩ (.int .i64 S2.inp)).setCell ⟨w2.heap.size, 3, none⟩ (.int .i64 S2.out)).setCell ⟨w2.heap.size, 4, none⟩ (.int .i64 S2.nxt)) := ⟨_, rfl⟩
  have hbw : w.heap.size ≤ w2.heap.size := HB2.out.size
  have hs2 : SmAt w4 w4.heap.size (smV Y0 Y1 y0 y1 S2) S2 := by
    have hst := OwnS.stay (w' := w4) HO2.out (fun b' hb' _ => by
      rw [HW4.out]
      simp at hb'
      repeat rw [heap_setCell_other _ _ _ _ (by simp; omega)])
    exact hst.read (by omega) (by omega)
  have HS2 := Lib.hid hs2
  have HB4 := Lib.hid (show Below w.heap.size w w4 by
    rw [HW4.out]
    repeat (first | (with_reducible exact HB3.out) | (with_reducible refine bDrewN (n := 1) ?_) | ((with_reducible refine Below.setCell ?_ ?_ _); rotate_left; focus (first | (simp; done) | (simp; omega))) | ((with_reducible refine Below.alloc ?_ ?_ _); rotate_left; focus (first | (simp; done) | (simp; omega)))))
  have kn4 : Blk w4 w1.heap.size 25 #[.slice D0 S0.files.length e0, .slice D1 S0.opn.length e1, .int .i64 S0.inp, .int .i64 S0.out, .int .i64 S0.nxt] := by
    rw [HW4.out]
    repeat (first | (with_reducible exact kn3) | (with_reducible refine Blk.far ?_ ?_ _); rotate_left; focus (first | (simp; done) | (simp; omega)))
  have kb4 : Blk w4 w2.heap.size 25 #[.slice Y0 S2.files.length y0, .slice Y1 S2.opn.length y1, .int .i64 S2.inp, .int .i64 S2.out, .int .i64 S2.nxt] := by
    rw [HW4.out]
    have h := ((((kb3.set_ 0 (.slice Y0 S2.files.length y0)).set_ 1 (.slice Y1 S2.opn.length y1)).set_ 2 (.int .i64 S2.inp)).set_ 3 (.int .i64 S2.out)).set_ 4 (.int .i64 S2.nxt)
    simpa using h
  rw [← HW4.out]
  clear p0 p1 p2 p3 p4 r0 r1 r2 r3 r4 rz hz3 kn3 kb3 hs2 HW4
  obtain ⟨p0, p1, p2, p3, p4⟩ := smBox' kb4
  have hzb := kb4.lt
  go_wp2_with fail
  refine (rest_any _ S2 2 _ HS2.out).mono ?_
  rintro e w5 ⟨rfl, hb5⟩
  rw [HX3.out, HX4.out]
  have HB5 := Lib.hid (bNext HB4.out hb5)
  have HS5 := Lib.hid (HS2.out.next hb5)
  have kn5 := kn4.next hb5
  have kb5 := kb4.next hb5
  clear p0 p1 p2 p3 p4 hzb kn4 kb4 hb5
  obtain ⟨p0, p1, p2, p3, p4⟩ := smBox' kb5
  obtain ⟨n0, n1, n2, n3, n4⟩ := smBox' kn5
  have hzb := kb5.lt
  have hzn := kn5.lt
  have hl3 := HL3.out
  go_wp2_with fail
  refine (valid_any _ S2 _ HS5.out).mono ?_
  rintro e w6 ⟨rfl, hb6⟩
  rw [HX5.out]
  have HB6 := Lib.hid (bNext HB5.out hb6)
  clear hb6
  go_wp2_with fail
  go_ret
  exact ⟨rfl, HB6.out⟩
end Go.Proofs.Ytklpghpfdeojeaa
