/-
  The walk of RegsFlow (f5).
-/
import Derived.Test.YteffpeokialeiaaDd
import Derived.Test.YteffpeokialeiaaDc
import Derived.Test.YteffpeokialeiaaRegN
import Derived.Outline
namespace Go.Proofs.Yteffpeokialeiaa
open Go.RowKit

set_option maxRecDepth 100000 in
set_option maxHeartbeats 1000000 in
theorem law_flow (A : Option Addr) (n c : Nat) (l : List In) (base : Int) (w : World) (ha : InsAt w w.heap.size A n l) (_hbr : -9223372036854775808 ≤ base ∧ base ≤ 9223372036854775807) :
    Calls Try.prog 5 #[.slice A n c, .int .i64 base] w fun e w' => e = .returned (.bool true) ∧ Below w.heap.size w w' := by
  have HA := Lib.hid ha
  have hn2 := ha.1.2
  clear ha
  by_cases hn : n ≤ 60
  · have d0 : decide ((60 : Int) < (n : Int)) = false := by simp; omega
    go_enter Try.func5, Try.ntmps5
    go_wp2_with fail
    refine (assign_any A n c l base w HA.out hn).mono ?_
    cases hv : validP l base with
    | false =>
      rintro e w1 ⟨v, rfl, ho⟩
      have HB := Lib.hid ho.2
      rw [show errP l base = 1 by unfold errP; rw [hv]; rfl]
      have ha0 : assignP l base = [] := by unfold assignP; rw [hv]; rfl
      rw [ha0] at ho
      obtain ⟨A3, c3, rfl, _⟩ := own_form ho.1
      clear hv ho ha0
      simp only [List.length_nil]
      go_wp2_with fail
      refine (awake_any _).mono ?_
      rintro e w2 ⟨rfl, hb2⟩
      have HB2 := Lib.hid (bNext HB.out hb2)
      clear hb2
      go_wp2_with fail
      go_ret
      exact ⟨rfl, HB2.out⟩
    | true =>
      have hln := HA.out.len
      have hll : (assignP l base).length = n := by rw [assign_len hv, hln]
      have HP := Lib.hid (fun k x y => @flow_plain l base hv k x y)
      rintro e w1 ⟨v, rfl, ho⟩
      obtain ⟨A1, c1, rfl, hi1⟩ := ho.form (by rw [hll]; omega)
      rw [hll] at hi1 ⊢
      rw [show errP l base = 0 by unfold errP; rw [hv]; rfl]
      have HI1 := Lib.hid hi1
      have HB1 := Lib.hid ho.2
      have hz1 := ho.2.size
      have HLL := Lib.hid hll
      clear hv ho hi1 hll hln
      go_wp2_with fail
      go_loopw [7] (fun i wr => ∃ k : Nat, i = .int .i64 k ∧ k ≤ n ∧ Hid (Below w1.heap.size w1 wr)) (fun i _ => n - (intOf i).toNat)
      case atStart => exact ⟨0, rfl, Nat.zero_le _, Lib.hid (Below.refl _ _)⟩
      case round =>
        obtain ⟨k, rfl, hk, HR⟩ := hrel
        by_cases hlt : k < n
        · obtain ⟨b, off, x, rfl, hbb, hx, hcs⟩ := HA.out.at hlt
          obtain ⟨b', off', y, rfl, hbb', hy, hcs'⟩ := HI1.out.at hlt
          have HF := Lib.hid (HP.out k x y hx hy)
          have hlr := HF.out.1
          have hlw := HF.out.2.1
          have hS : (fun w' => ICells w' b (off + k * 6) x ∧ ICells w' b' (off' + k * 6) y) wr := ⟨hcs.below hbb (HB1.out.trans (HR.out.mono hz1)), hcs'.below hbb' HR.out⟩
          have hz : b < wr.heap.size := by have := HR.out.size; omega
          have hz' : b' < wr.heap.size := by have := HR.out.size; omega
          have HBw := Lib.hid hbb
          have HBw' := Lib.hid hbb'
          clear hx hy hcs hcs' hbb hbb'
          go_upto_region 11 with (fail)
          obtain ⟨W1, HW1q⟩ : ∃ X, Hid (X = wr.drew) := ⟨_, Lib.hid rfl⟩
          have HW1d : Below wr.heap.size wr W1 := by rw [HW1q.out]; exact bDrew wr
          have HR1 := Lib.hid (bNext HR.out HW1d)
          have hS0 : (fun w' => ICells w' b (off + k * 6) x ∧ ICells w' b' (off' + k * 6) y) W1 := ⟨hS.1.below hz HW1d, hS.2.below hz' HW1d⟩
          have hz0 := Nat.lt_of_lt_of_le hz HW1d.size
          have hz0' := Nat.lt_of_lt_of_le hz' HW1d.size
          clear hS HW1d
          refine wp_region_N (fun w' => ICells w' b (off + k * 6) x ∧ ICells w' b' (off' + k * 6) y) (fun _ => true) (by kernel_rfl) ?_
          rw [← HW1q.out]
          clear HW1q
          refine wpAnyN_take (i := 0) (v := ?v1) rfl (by kernel_rfl) (by kernel_rfl) (by kernel_rfl) (by kernel_rfl) (fun _ _ _ h => h) (Or.inl ⟨by rfl, ?hy1⟩) (by assumption) ?_
          case hy1 => intro w hSw; obtain ⟨⟨i0, i1, i2, i3, i4, i5⟩, ⟨j0, j1, j2, j3, j4, j5⟩⟩ := hSw; go_simp; try with_reducible rfl
          simp only [Act.put, List.getElem_toArray, List.getElem_cons_zero, List.setIfInBounds_toArray, List.set_cons_zero, List.set_cons_succ]
          refine wpAnyN_take (i := 1) (v := ?v2) rfl (by kernel_rfl) (by kernel_rfl) (by kernel_rfl) (by kernel_rfl) (fun _ _ _ h => h) (Or.inl ⟨by rfl, ?hy2⟩) (by assumption) ?_
          case hy2 => intro w hSw; obtain ⟨⟨i0, i1, i2, i3, i4, i5⟩, ⟨j0, j1, j2, j3, j4, j5⟩⟩ := hSw; go_simp; try with_reducible rfl
          simp only [Act.put, List.getElem_toArray, List.getElem_cons_zero, List.getElem_cons_succ, List.setIfInBounds_toArray, List.set_cons_zero, List.set_cons_succ]
          refine wpAnyN_take (i := 2) (v := ?v3) rfl (by kernel_rfl) (by kernel_rfl) (by kernel_rfl) (by kernel_rfl) (fun _ _ _ h => h) (Or.inl ⟨by rfl, ?hy3⟩) (by assumption) ?_
          case hy3 => intro w hSw; obtain ⟨⟨i0, i1, i2, i3, i4, i5⟩, ⟨j0, j1, j2, j3, j4, j5⟩⟩ := hSw; go_simp; try with_reducible rfl
          simp only [Act.put, List.getElem_toArray, List.getElem_cons_zero, List.getElem_cons_succ, List.setIfInBounds_toArray, List.set_cons_zero, List.set_cons_succ]
          refine wpAnyN_take (i := 3) (v := ?v4) rfl (by kernel_rfl) (by kernel_rfl) (by kernel_rfl) (by kernel_rfl) (fun _ _ _ h => h) (Or.inl ⟨by rfl, ?hy4⟩) (by assumption) ?_
          case hy4 => intro w hSw; obtain ⟨⟨i0, i1, i2, i3, i4, i5⟩, ⟨j0, j1, j2, j3, j4, j5⟩⟩ := hSw; go_simp; try with_reducible rfl
          simp only [Act.put, List.getElem_toArray, List.getElem_cons_zero, List.getElem_cons_succ, List.setIfInBounds_toArray, List.set_cons_zero, List.set_cons_succ]
          refine wpAnyN_take (i := 5) (v := ?v5) rfl (by kernel_rfl) (by kernel_rfl) (by kernel_rfl) (by kernel_rfl) (fun _ _ _ h => h) (Or.inl ⟨by rfl, ?hy5⟩) (by assumption) ?_
          case hy5 => intro w hSw; obtain ⟨⟨i0, i1, i2, i3, i4, i5⟩, ⟨j0, j1, j2, j3, j4, j5⟩⟩ := hSw; go_simp; try with_reducible rfl
          simp only [Act.put, List.getElem_toArray, List.getElem_cons_zero, List.getElem_cons_succ, List.setIfInBounds_toArray, List.set_cons_zero, List.set_cons_succ]
          refine wpAnyN_take (i := 6) (v := ?v6) rfl (by kernel_rfl) (by kernel_rfl) (by kernel_rfl) (by kernel_rfl) (fun _ _ _ h => h) (Or.inl ⟨by rfl, ?hy6⟩) (by assumption) ?_
          case hy6 => intro w hSw; obtain ⟨⟨i0, i1, i2, i3, i4, i5⟩, ⟨j0, j1, j2, j3, j4, j5⟩⟩ := hSw; go_simp; try with_reducible rfl
          simp only [Act.put, List.getElem_toArray, List.getElem_cons_zero, List.getElem_cons_succ, List.setIfInBounds_toArray, List.set_cons_zero, List.set_cons_succ]
          refine wpAnyN_take (i := 7) (v := ?v7) rfl (by kernel_rfl) (by kernel_rfl) (by kernel_rfl) (by kernel_rfl) (fun _ _ _ h => h) (Or.inl ⟨by rfl, ?hy7⟩) (by assumption) ?_
          case hy7 => intro w hSw; obtain ⟨⟨i0, i1, i2, i3, i4, i5⟩, ⟨j0, j1, j2, j3, j4, j5⟩⟩ := hSw; go_simp; try with_reducible rfl
          simp only [Act.put, List.getElem_toArray, List.getElem_cons_zero, List.getElem_cons_succ, List.setIfInBounds_toArray, List.set_cons_zero, List.set_cons_succ]
          refine wpAnyN_take (i := 8) (v := ?v8) rfl (by kernel_rfl) (by kernel_rfl) (by kernel_rfl) (by kernel_rfl) (fun _ _ _ h => h) (Or.inl ⟨by rfl, ?hy8⟩) (by assumption) ?_
          case hy8 => intro w hSw; obtain ⟨⟨i0, i1, i2, i3, i4, i5⟩, ⟨j0, j1, j2, j3, j4, j5⟩⟩ := hSw; go_simp; try with_reducible rfl
          simp only [Act.put, List.getElem_toArray, List.getElem_cons_zero, List.getElem_cons_succ, List.setIfInBounds_toArray, List.set_cons_zero, List.set_cons_succ]
          refine wpAnyN_one (i := 4) (by kernel_rfl) rfl (fun K hK => ?_)
          simp only [List.getElem_toArray, List.getElem_cons_zero, List.getElem_cons_succ]
          go_simp
          refine (reads_any x _).mono ?_
          rintro e w2 ⟨v2, rfl, ho⟩
          obtain ⟨A2, c2, rfl, _⟩ := own_form ho.1
          have HI2 := Lib.hid (own_ints ho.1 (by have := rd_len x; have := rd_len y; have := wr_len x; have := wr_len y; omega))
          have HR2 := Lib.hid (bNext HR1.out ho.2)
          have hS2 : (fun w' => ICells w' b (off + k * 6) x ∧ ICells w' b' (off' + k * 6) y) w2 := ⟨hS0.1.below hz0 ho.2, hS0.2.below hz0' ho.2⟩
          have hz2 := Nat.lt_of_lt_of_le hz0 ho.2.size
          have hz2' := Nat.lt_of_lt_of_le hz0' ho.2.size
          clear ho
          refine hK _ _ (fun _ => hS2) ?_
          (try simp only [Act.put, List.setIfInBounds_toArray, List.set_cons_zero, List.set_cons_succ])
          refine wpAnyN_one (i := 9) (by kernel_rfl) rfl (fun K hK => ?_)
          simp only [List.getElem_toArray, List.getElem_cons_zero, List.getElem_cons_succ]
          go_simp
          refine (reads_any y _).mono ?_
          rintro e w3 ⟨v3, rfl, ho⟩
          have HI2b := Lib.hid (HI2.out.next ho.2)
          obtain ⟨A3, c3, rfl, _⟩ := own_form ho.1
          have HI3 := Lib.hid (own_ints ho.1 (by have := rd_len x; have := rd_len y; have := wr_len x; have := wr_len y; omega))
          have HR3 := Lib.hid (bNext HR2.out ho.2)
          have hS3 : (fun w' => ICells w' b (off + k * 6) x ∧ ICells w' b' (off' + k * 6) y) w3 := ⟨hS2.1.below hz2 ho.2, hS2.2.below hz2' ho.2⟩
          have hz3 := Nat.lt_of_lt_of_le hz2 ho.2.size
          have hz3' := Nat.lt_of_lt_of_le hz2' ho.2.size
          clear ho
          rw [hlr] at HI3 ⊢

          refine hK _ _ (fun _ => hS3) ?_
          (try simp only [Act.put, List.setIfInBounds_toArray, List.set_cons_zero, List.set_cons_succ])
          refine wpAnyN_one (i := 10) (by kernel_rfl) rfl (fun K hK => ?_)
          simp only [List.getElem_toArray, List.getElem_cons_zero, List.getElem_cons_succ]
          go_simp
          refine hK _ _ (fun _ => hS3) ?_
          (try simp only [Act.put, List.setIfInBounds_toArray, List.set_cons_zero, List.set_cons_succ])
          refine wpAnyN_one (i := 11) (by kernel_rfl) rfl (fun K hK => ?_)
          simp only [List.getElem_toArray, List.getElem_cons_zero, List.getElem_cons_succ]
          go_simp
          refine hK _ _ (fun _ => hS3) ?_
          (try simp only [Act.put, List.setIfInBounds_toArray, List.set_cons_zero, List.set_cons_succ])
          refine wpAnyN_done (by kernel_rfl) ?_ _
          clear hS0 hS2
          go_upto_region 12 with (fail)
          obtain ⟨W4, HW4q⟩ : ∃ X, Hid (X = w3.drew) := ⟨_, Lib.hid rfl⟩
          have HW4d : Below w3.heap.size w3 W4 := by rw [HW4q.out]; exact bDrew w3
          have HR4 := Lib.hid (bNext HR3.out HW4d)
          have HJ2 := Lib.hid (HI2b.out.next HW4d)
          have HJ3 := Lib.hid (HI3.out.next HW4d)
          have hS4 : (fun w' => ICells w' b (off + k * 6) x ∧ ICells w' b' (off' + k * 6) y) W4 := ⟨hS3.1.below hz3 HW4d, hS3.2.below hz3' HW4d⟩
          have hz4 := Nat.lt_of_lt_of_le hz3 HW4d.size
          have hz4' := Nat.lt_of_lt_of_le hz3' HW4d.size
          clear hS3 HW4d
          refine wp_region_N (fun w' => ICells w' b (off + k * 6) x ∧ ICells w' b' (off' + k * 6) y) (fun _ => true) (by kernel_rfl) ?_
          rw [← HW4q.out]
          clear HW4q
          refine wpAnyN_take (i := 0) (v := ?v9) rfl (by kernel_rfl) (by kernel_rfl) (by kernel_rfl) (by kernel_rfl) (fun _ _ _ h => h) (Or.inl ⟨by rfl, ?hy9⟩) (by assumption) ?_
          case hy9 => intro w hSw; obtain ⟨⟨i0, i1, i2, i3, i4, i5⟩, ⟨j0, j1, j2, j3, j4, j5⟩⟩ := hSw; go_simp; try with_reducible rfl
          simp only [Act.put, List.getElem_toArray, List.getElem_cons_zero, List.setIfInBounds_toArray, List.set_cons_zero, List.set_cons_succ]
          refine wpAnyN_take (i := 2) (v := ?v10) rfl (by kernel_rfl) (by kernel_rfl) (by kernel_rfl) (by kernel_rfl) (fun _ _ _ h => h) (Or.inl ⟨by rfl, ?hy10⟩) (by assumption) ?_
          case hy10 => intro w hSw; obtain ⟨⟨i0, i1, i2, i3, i4, i5⟩, ⟨j0, j1, j2, j3, j4, j5⟩⟩ := hSw; go_simp; try with_reducible rfl
          simp only [Act.put, List.getElem_toArray, List.getElem_cons_zero, List.getElem_cons_succ, List.setIfInBounds_toArray, List.set_cons_zero, List.set_cons_succ]
          refine wpAnyN_take (i := 1) (v := ?v11) rfl (by kernel_rfl) (by kernel_rfl) (by kernel_rfl) (by kernel_rfl) (fun _ _ _ h => h) (Or.inl ⟨by rfl, ?hy11⟩) (by assumption) ?_
          case hy11 => intro w hSw; obtain ⟨⟨i0, i1, i2, i3, i4, i5⟩, ⟨j0, j1, j2, j3, j4, j5⟩⟩ := hSw; go_simp; try with_reducible rfl
          simp only [Act.put, List.getElem_toArray, List.getElem_cons_zero, List.getElem_cons_succ, List.setIfInBounds_toArray, List.set_cons_zero, List.set_cons_succ]
          refine wpAnyN_take (i := 3) (v := ?v12) rfl (by kernel_rfl) (by kernel_rfl) (by kernel_rfl) (by kernel_rfl) (fun _ _ _ h => h) (Or.inl ⟨by rfl, ?hy12⟩) (by assumption) ?_
          case hy12 => intro w hSw; obtain ⟨⟨i0, i1, i2, i3, i4, i5⟩, ⟨j0, j1, j2, j3, j4, j5⟩⟩ := hSw; go_simp; try with_reducible rfl
          simp only [Act.put, List.getElem_toArray, List.getElem_cons_zero, List.getElem_cons_succ, List.setIfInBounds_toArray, List.set_cons_zero, List.set_cons_succ]
          refine wpAnyN_take (i := 4) (v := ?v13) rfl (by kernel_rfl) (by kernel_rfl) (by kernel_rfl) (by kernel_rfl) (fun _ _ _ h => h) (Or.inl ⟨by rfl, ?hy13⟩) (by assumption) ?_
          case hy13 => intro w hSw; obtain ⟨⟨i0, i1, i2, i3, i4, i5⟩, ⟨j0, j1, j2, j3, j4, j5⟩⟩ := hSw; go_simp; try with_reducible rfl
          simp only [Act.put, List.getElem_toArray, List.getElem_cons_zero, List.getElem_cons_succ, List.setIfInBounds_toArray, List.set_cons_zero, List.set_cons_succ]
          refine wpAnyN_take (i := 5) (v := ?v14) rfl (by kernel_rfl) (by kernel_rfl) (by kernel_rfl) (by kernel_rfl) (fun _ _ _ h => h) (Or.inl ⟨by rfl, ?hy14⟩) (by assumption) ?_
          case hy14 => intro w hSw; obtain ⟨⟨i0, i1, i2, i3, i4, i5⟩, ⟨j0, j1, j2, j3, j4, j5⟩⟩ := hSw; go_simp; try with_reducible rfl
          simp only [Act.put, List.getElem_toArray, List.getElem_cons_zero, List.getElem_cons_succ, List.setIfInBounds_toArray, List.set_cons_zero, List.set_cons_succ]
          refine wpAnyN_take (i := 6) (v := ?v15) rfl (by kernel_rfl) (by kernel_rfl) (by kernel_rfl) (by kernel_rfl) (fun _ _ _ h => h) (Or.inl ⟨by rfl, ?hy15⟩) (by assumption) ?_
          case hy15 => intro w hSw; obtain ⟨⟨i0, i1, i2, i3, i4, i5⟩, ⟨j0, j1, j2, j3, j4, j5⟩⟩ := hSw; go_simp; try with_reducible rfl
          simp only [Act.put, List.getElem_toArray, List.getElem_cons_zero, List.getElem_cons_succ, List.setIfInBounds_toArray, List.set_cons_zero, List.set_cons_succ]
          refine wpAnyN_take (i := 7) (v := ?v16) rfl (by kernel_rfl) (by kernel_rfl) (by kernel_rfl) (by kernel_rfl) (fun _ _ _ h => h) (Or.inl ⟨by rfl, ?hy16⟩) (by assumption) ?_
          case hy16 => intro w hSw; obtain ⟨⟨i0, i1, i2, i3, i4, i5⟩, ⟨j0, j1, j2, j3, j4, j5⟩⟩ := hSw; go_simp; try with_reducible rfl
          simp only [Act.put, List.getElem_toArray, List.getElem_cons_zero, List.getElem_cons_succ, List.setIfInBounds_toArray, List.set_cons_zero, List.set_cons_succ]
          refine wpAnyN_take (i := 8) (v := ?v17) rfl (by kernel_rfl) (by kernel_rfl) (by kernel_rfl) (by kernel_rfl) (fun _ _ _ h => h) (Or.inl ⟨by rfl, ?hy17⟩) (by assumption) ?_
          case hy17 => intro w hSw; obtain ⟨⟨i0, i1, i2, i3, i4, i5⟩, ⟨j0, j1, j2, j3, j4, j5⟩⟩ := hSw; go_simp; try with_reducible rfl
          simp only [Act.put, List.getElem_toArray, List.getElem_cons_zero, List.getElem_cons_succ, List.setIfInBounds_toArray, List.set_cons_zero, List.set_cons_succ]
          refine wpAnyN_take (i := 9) (v := ?v18) rfl (by kernel_rfl) (by kernel_rfl) (by kernel_rfl) (by kernel_rfl) (fun _ _ _ h => h) (Or.inl ⟨by rfl, ?hy18⟩) (by assumption) ?_
          case hy18 => intro w hSw; obtain ⟨⟨i0, i1, i2, i3, i4, i5⟩, ⟨j0, j1, j2, j3, j4, j5⟩⟩ := hSw; go_simp; try with_reducible rfl
          simp only [Act.put, List.getElem_toArray, List.getElem_cons_zero, List.getElem_cons_succ, List.setIfInBounds_toArray, List.set_cons_zero, List.set_cons_succ]
          refine wpAnyN_take (i := 12) (v := ?v19) rfl (by kernel_rfl) (by kernel_rfl) (by kernel_rfl) (by kernel_rfl) (fun _ _ _ h => h) (Or.inl ⟨by rfl, ?hy19⟩) (by assumption) ?_
          case hy19 => intro w hSw; obtain ⟨⟨i0, i1, i2, i3, i4, i5⟩, ⟨j0, j1, j2, j3, j4, j5⟩⟩ := hSw; go_simp; try with_reducible rfl
          simp only [Act.put, List.getElem_toArray, List.getElem_cons_zero, List.getElem_cons_succ, List.setIfInBounds_toArray, List.set_cons_zero, List.set_cons_succ]
          refine wpAnyN_take (i := 13) (v := ?v20) rfl (by kernel_rfl) (by kernel_rfl) (by kernel_rfl) (by kernel_rfl) (fun _ _ _ h => h) (Or.inl ⟨by rfl, ?hy20⟩) (by assumption) ?_
          case hy20 => intro w hSw; obtain ⟨⟨i0, i1, i2, i3, i4, i5⟩, ⟨j0, j1, j2, j3, j4, j5⟩⟩ := hSw; go_simp; try with_reducible rfl
          simp only [Act.put, List.getElem_toArray, List.getElem_cons_zero, List.getElem_cons_succ, List.setIfInBounds_toArray, List.set_cons_zero, List.set_cons_succ]
          refine wpAnyN_take (i := 14) (v := ?v21) rfl (by kernel_rfl) (by kernel_rfl) (by kernel_rfl) (by kernel_rfl) (fun _ _ _ h => h) (Or.inl ⟨by rfl, ?hy21⟩) (by assumption) ?_
          case hy21 => intro w hSw; obtain ⟨⟨i0, i1, i2, i3, i4, i5⟩, ⟨j0, j1, j2, j3, j4, j5⟩⟩ := hSw; go_simp; try with_reducible rfl
          simp only [Act.put, List.getElem_toArray, List.getElem_cons_zero, List.getElem_cons_succ, List.setIfInBounds_toArray, List.set_cons_zero, List.set_cons_succ]
          refine wpAnyN_take (i := 15) (v := ?v22) rfl (by kernel_rfl) (by kernel_rfl) (by kernel_rfl) (by kernel_rfl) (fun _ _ _ h => h) (Or.inl ⟨by rfl, ?hy22⟩) (by assumption) ?_
          case hy22 => intro w hSw; obtain ⟨⟨i0, i1, i2, i3, i4, i5⟩, ⟨j0, j1, j2, j3, j4, j5⟩⟩ := hSw; go_simp; try with_reducible rfl
          simp only [Act.put, List.getElem_toArray, List.getElem_cons_zero, List.getElem_cons_succ, List.setIfInBounds_toArray, List.set_cons_zero, List.set_cons_succ]
          refine wpAnyN_one (i := 10) (by kernel_rfl) rfl (fun K hK => ?_)
          simp only [List.getElem_toArray, List.getElem_cons_zero, List.getElem_cons_succ]
          go_simp
          refine (writes_any x _).mono ?_
          rintro e w5 ⟨v5, rfl, ho⟩
          have HK2 := Lib.hid (HJ2.out.next ho.2)
          have HK3 := Lib.hid (HJ3.out.next ho.2)
          obtain ⟨A5, c5, rfl, _⟩ := own_form ho.1
          have HI5 := Lib.hid (own_ints ho.1 (by have := rd_len x; have := rd_len y; have := wr_len x; have := wr_len y; omega))
          have HR5 := Lib.hid (bNext HR4.out ho.2)
          have hS5 : (fun w' => ICells w' b (off + k * 6) x ∧ ICells w' b' (off' + k * 6) y) w5 := ⟨hS4.1.below hz4 ho.2, hS4.2.below hz4' ho.2⟩
          have hz5 := Nat.lt_of_lt_of_le hz4 ho.2.size
          have hz5' := Nat.lt_of_lt_of_le hz4' ho.2.size
          clear ho
          refine hK _ _ (fun _ => hS5) ?_
          (try simp only [Act.put, List.setIfInBounds_toArray, List.set_cons_zero, List.set_cons_succ])
          refine wpAnyN_take (i := 11) (v := ?v23) rfl (by kernel_rfl) (by kernel_rfl) (by kernel_rfl) (by kernel_rfl) (fun _ _ _ h => h) (Or.inl ⟨by rfl, ?hy23⟩) (by assumption) ?_
          case hy23 => intro w hSw; obtain ⟨⟨i0, i1, i2, i3, i4, i5⟩, ⟨j0, j1, j2, j3, j4, j5⟩⟩ := hSw; go_simp; try with_reducible rfl
          simp only [Act.put, List.getElem_toArray, List.getElem_cons_zero, List.getElem_cons_succ, List.setIfInBounds_toArray, List.set_cons_zero, List.set_cons_succ]
          refine wpAnyN_one (i := 16) (by kernel_rfl) rfl (fun K hK => ?_)
          simp only [List.getElem_toArray, List.getElem_cons_zero, List.getElem_cons_succ]
          go_simp
          refine (writes_any y _).mono ?_
          rintro e w6 ⟨v6, rfl, ho⟩
          have HM2 := Lib.hid (HK2.out.next ho.2)
          have HM3 := Lib.hid (HK3.out.next ho.2)
          obtain ⟨A6, c6, rfl, _⟩ := own_form ho.1
          have HI6 := Lib.hid (own_ints ho.1 (by have := rd_len x; have := rd_len y; have := wr_len x; have := wr_len y; omega))
          have HR6 := Lib.hid (bNext HR5.out ho.2)
          have hS6 : (fun w' => ICells w' b (off + k * 6) x ∧ ICells w' b' (off' + k * 6) y) w6 := ⟨hS5.1.below hz5 ho.2, hS5.2.below hz5' ho.2⟩
          have hz6 := Nat.lt_of_lt_of_le hz5 ho.2.size
          have hz6' := Nat.lt_of_lt_of_le hz5' ho.2.size
          clear ho
          rw [hlw] at HI6 ⊢
          refine hK _ _ (fun _ => hS6) ?_
          (try simp only [Act.put, List.setIfInBounds_toArray, List.set_cons_zero, List.set_cons_succ])
          refine wpAnyN_one (i := 17) (by kernel_rfl) rfl (fun K hK => ?_)
          simp only [List.getElem_toArray, List.getElem_cons_zero, List.getElem_cons_succ]
          go_simp
          refine hK _ _ (fun _ => hS6) ?_
          (try simp only [Act.put, List.setIfInBounds_toArray, List.set_cons_zero, List.set_cons_succ])
          refine wpAnyN_one (i := 18) (by kernel_rfl) rfl (fun K hK => ?_)
          simp only [List.getElem_toArray, List.getElem_cons_zero, List.getElem_cons_succ]
          go_simp
          refine hK _ _ (fun _ => hS6) ?_
          (try simp only [Act.put, List.setIfInBounds_toArray, List.set_cons_zero, List.set_cons_succ])
          refine wpAnyN_one (i := 19) (by kernel_rfl) rfl (fun K hK => ?_)
          simp only [List.getElem_toArray, List.getElem_cons_zero, List.getElem_cons_succ]
          go_simp
          refine hK _ _ (fun _ => hS6) ?_
          (try simp only [Act.put, List.setIfInBounds_toArray, List.set_cons_zero, List.set_cons_succ])
          refine wpAnyN_done (by kernel_rfl) ?_ _
          clear hS4 hS5 hS6
          have hzw := HR6.out.size
          have hrl := rd_len x
          go_wp2_with fail
          go_loopw [10] (fun i wj => ∃ j : Nat, i = .int .i64 j ∧ j ≤ (rdOf x).length ∧ Hid (Below w6.heap.size w6 wj)) (fun i _ => (rdOf x).length - (intOf i).toNat)
          case atStart => exact ⟨0, rfl, Nat.zero_le _, Lib.hid (Below.refl _ _)⟩
          case round =>
            obtain ⟨j, rfl, hj, HJ⟩ := hrel
            by_cases hjl : j < (rdOf x).length
            · obtain ⟨b4, off4, p, rfl, hb4, hp, hcp⟩ := HM2.out.at hjl
              obtain ⟨b5, off5, q, rfl, hb5, hq, hcq⟩ := HM3.out.at hjl
              have HE := Lib.hid (HF.out.2.2 j p q hp hq)
              have hT : (fun w' => w'.cell? ⟨b4, off4 + j, none⟩ = some (.int .i64 p) ∧ w'.cell? ⟨b5, off5 + j, none⟩ = some (.int .i64 q)) wr := ⟨(HJ.out.cell (p := ⟨b4, off4 + j, none⟩) hb4).trans hcp, (HJ.out.cell (p := ⟨b5, off5 + j, none⟩) hb5).trans hcq⟩
              have hy4 : b4 < wr.heap.size := by have := HJ.out.size; omega
              have hy5 : b5 < wr.heap.size := by have := HJ.out.size; omega
              clear hp hq hcp hcq hb4 hb5
              go_upto_region 17 with (fail)
              obtain ⟨W7, HW7q⟩ : ∃ X, Hid (X = wr.drew) := ⟨_, Lib.hid rfl⟩
              have HW7d : Below wr.heap.size wr W7 := by rw [HW7q.out]; exact bDrew wr
              have HJ7 := Lib.hid (bNext HJ.out HW7d)
              have hT7 : (fun w' => w'.cell? ⟨b4, off4 + j, none⟩ = some (.int .i64 p) ∧ w'.cell? ⟨b5, off5 + j, none⟩ = some (.int .i64 q)) W7 := ⟨(HW7d.cell (p := ⟨b4, off4 + j, none⟩) hy4).trans hT.1, (HW7d.cell (p := ⟨b5, off5 + j, none⟩) hy5).trans hT.2⟩
              have hu4 := Nat.lt_of_lt_of_le hy4 HW7d.size
              have hu5 := Nat.lt_of_lt_of_le hy5 HW7d.size
              clear hT HW7d
              refine wp_region_N (fun w' => w'.cell? ⟨b4, off4 + j, none⟩ = some (.int .i64 p) ∧ w'.cell? ⟨b5, off5 + j, none⟩ = some (.int .i64 q)) (fun _ => true) (by kernel_rfl) ?_
              rw [← HW7q.out]
              clear HW7q
              refine wpAnyN_take (i := 0) (v := ?v24) rfl (by kernel_rfl) (by kernel_rfl) (by kernel_rfl) (by kernel_rfl) (fun _ _ _ h => h) (Or.inl ⟨by rfl, ?hy24⟩) (by assumption) ?_
              case hy24 => intro w hSw; obtain ⟨i0, i1⟩ := hSw; go_simp; try with_reducible rfl
              simp only [Act.put, List.getElem_toArray, List.getElem_cons_zero, List.setIfInBounds_toArray, List.set_cons_zero, List.set_cons_succ]
              refine wpAnyN_take (i := 1) (v := ?v25) rfl (by kernel_rfl) (by kernel_rfl) (by kernel_rfl) (by kernel_rfl) (fun _ _ _ h => h) (Or.inl ⟨by rfl, ?hy25⟩) (by assumption) ?_
              case hy25 => intro w hSw; obtain ⟨i0, i1⟩ := hSw; go_simp; try with_reducible rfl
              simp only [Act.put, List.getElem_toArray, List.getElem_cons_zero, List.getElem_cons_succ, List.setIfInBounds_toArray, List.set_cons_zero, List.set_cons_succ]
              refine wpAnyN_take (i := 2) (v := ?v26) rfl (by kernel_rfl) (by kernel_rfl) (by kernel_rfl) (by kernel_rfl) (fun _ _ _ h => h) (Or.inl ⟨by rfl, ?hy26⟩) (by assumption) ?_
              case hy26 => intro w hSw; obtain ⟨i0, i1⟩ := hSw; go_simp; try with_reducible rfl
              simp only [Act.put, List.getElem_toArray, List.getElem_cons_zero, List.getElem_cons_succ, List.setIfInBounds_toArray, List.set_cons_zero, List.set_cons_succ]
              refine wpAnyN_take (i := 3) (v := ?v27) rfl (by kernel_rfl) (by kernel_rfl) (by kernel_rfl) (by kernel_rfl) (fun _ _ _ h => h) (Or.inl ⟨by rfl, ?hy27⟩) (by assumption) ?_
              case hy27 => intro w hSw; obtain ⟨i0, i1⟩ := hSw; go_simp; try with_reducible rfl
              simp only [Act.put, List.getElem_toArray, List.getElem_cons_zero, List.getElem_cons_succ, List.setIfInBounds_toArray, List.set_cons_zero, List.set_cons_succ]
              refine wpAnyN_take (i := 4) (v := ?v28) rfl (by kernel_rfl) (by kernel_rfl) (by kernel_rfl) (by kernel_rfl) (fun _ _ _ h => h) (Or.inl ⟨by rfl, ?hy28⟩) (by assumption) ?_
              case hy28 => intro w hSw; obtain ⟨i0, i1⟩ := hSw; go_simp; try with_reducible rfl
              simp only [Act.put, List.getElem_toArray, List.getElem_cons_zero, List.getElem_cons_succ, List.setIfInBounds_toArray, List.set_cons_zero, List.set_cons_succ]
              refine wpAnyN_take (i := 5) (v := ?v29) rfl (by kernel_rfl) (by kernel_rfl) (by kernel_rfl) (by kernel_rfl) (fun _ _ _ h => h) (Or.inl ⟨by rfl, ?hy29⟩) (by assumption) ?_
              case hy29 => intro w hSw; obtain ⟨i0, i1⟩ := hSw; go_simp; try with_reducible rfl
              simp only [Act.put, List.getElem_toArray, List.getElem_cons_zero, List.getElem_cons_succ, List.setIfInBounds_toArray, List.set_cons_zero, List.set_cons_succ]
              refine wpAnyN_take (i := 7) (v := ?v30) rfl (by kernel_rfl) (by kernel_rfl) (by kernel_rfl) (by kernel_rfl) (fun _ _ _ h => h) (Or.inl ⟨by rfl, ?hy30⟩) (by assumption) ?_
              case hy30 => intro w hSw; obtain ⟨i0, i1⟩ := hSw; go_simp; try with_reducible rfl
              simp only [Act.put, List.getElem_toArray, List.getElem_cons_zero, List.getElem_cons_succ, List.setIfInBounds_toArray, List.set_cons_zero, List.set_cons_succ]
              refine wpAnyN_take (i := 8) (v := ?v31) rfl (by kernel_rfl) (by kernel_rfl) (by kernel_rfl) (by kernel_rfl) (fun _ _ _ h => h) (Or.inl ⟨by rfl, ?hy31⟩) (by assumption) ?_
              case hy31 => intro w hSw; obtain ⟨i0, i1⟩ := hSw; go_simp; try with_reducible rfl
              simp only [Act.put, List.getElem_toArray, List.getElem_cons_zero, List.getElem_cons_succ, List.setIfInBounds_toArray, List.set_cons_zero, List.set_cons_succ]
              refine wpAnyN_take (i := 9) (v := ?v32) rfl (by kernel_rfl) (by kernel_rfl) (by kernel_rfl) (by kernel_rfl) (fun _ _ _ h => h) (Or.inl ⟨by rfl, ?hy32⟩) (by assumption) ?_
              case hy32 => intro w hSw; obtain ⟨i0, i1⟩ := hSw; go_simp; try with_reducible rfl
              simp only [Act.put, List.getElem_toArray, List.getElem_cons_zero, List.getElem_cons_succ, List.setIfInBounds_toArray, List.set_cons_zero, List.set_cons_succ]
              refine wpAnyN_take (i := 10) (v := ?v33) rfl (by kernel_rfl) (by kernel_rfl) (by kernel_rfl) (by kernel_rfl) (fun _ _ _ h => h) (Or.inl ⟨by rfl, ?hy33⟩) (by assumption) ?_
              case hy33 => intro w hSw; obtain ⟨i0, i1⟩ := hSw; go_simp; try with_reducible rfl
              simp only [Act.put, List.getElem_toArray, List.getElem_cons_zero, List.getElem_cons_succ, List.setIfInBounds_toArray, List.set_cons_zero, List.set_cons_succ]
              refine wpAnyN_take (i := 11) (v := ?v34) rfl (by kernel_rfl) (by kernel_rfl) (by kernel_rfl) (by kernel_rfl) (fun _ _ _ h => h) (Or.inl ⟨by rfl, ?hy34⟩) (by assumption) ?_
              case hy34 => intro w hSw; obtain ⟨i0, i1⟩ := hSw; go_simp; try with_reducible rfl
              simp only [Act.put, List.getElem_toArray, List.getElem_cons_zero, List.getElem_cons_succ, List.setIfInBounds_toArray, List.set_cons_zero, List.set_cons_succ]
              refine wpAnyN_take (i := 12) (v := ?v35) rfl (by kernel_rfl) (by kernel_rfl) (by kernel_rfl) (by kernel_rfl) (fun _ _ _ h => h) (Or.inl ⟨by rfl, ?hy35⟩) (by assumption) ?_
              case hy35 => intro w hSw; obtain ⟨i0, i1⟩ := hSw; go_simp; try with_reducible rfl
              simp only [Act.put, List.getElem_toArray, List.getElem_cons_zero, List.getElem_cons_succ, List.setIfInBounds_toArray, List.set_cons_zero, List.set_cons_succ]
              refine wpAnyN_one (i := 6) (by kernel_rfl) rfl (fun K hK => ?_)
              simp only [List.getElem_toArray, List.getElem_cons_zero, List.getElem_cons_succ]
              go_simp
              refine (writer_any _ n c l k p W7 ((HA.out.below (HB1.out.trans ((HR6.out.trans (HJ7.out.mono hzw)).mono hz1))).more (by have := HR6.out.size; have := HJ7.out.size; omega)) hk hn).mono ?_
              rintro e w8 ⟨rfl, hb⟩
              have HJ8 := Lib.hid (bNext HJ7.out hb)
              have hT8 : (fun w' => w'.cell? ⟨b4, off4 + j, none⟩ = some (.int .i64 p) ∧ w'.cell? ⟨b5, off5 + j, none⟩ = some (.int .i64 q)) w8 := ⟨(hb.cell (p := ⟨b4, off4 + j, none⟩) hu4).trans hT7.1, (hb.cell (p := ⟨b5, off5 + j, none⟩) hu5).trans hT7.2⟩
              have hsz8 := hb.size
              clear hb
              refine hK _ _ (fun _ => hT8) ?_
              (try simp only [Act.put, List.setIfInBounds_toArray, List.set_cons_zero, List.set_cons_succ])
              refine wpAnyN_one (i := 13) (by kernel_rfl) rfl (fun K hK => ?_)
              simp only [List.getElem_toArray, List.getElem_cons_zero, List.getElem_cons_succ]
              go_simp
              refine (writer_any _ n c1 (assignP l base) k q w8 (((HI1.out.below (HR6.out.trans (HJ8.out.mono hzw))).more (by have := HR6.out.size; have := HJ8.out.size; omega))) hk hn).mono ?_
              rw [← HE.out]
              rintro e w9 ⟨rfl, hb⟩
              have HJ9 := Lib.hid (bNext HJ8.out hb)
              have hT9 : (fun w' => w'.cell? ⟨b4, off4 + j, none⟩ = some (.int .i64 p) ∧ w'.cell? ⟨b5, off5 + j, none⟩ = some (.int .i64 q)) w9 := ⟨(hb.cell (p := ⟨b4, off4 + j, none⟩) (show b4 < _ by omega)).trans hT8.1, (hb.cell (p := ⟨b5, off5 + j, none⟩) (show b5 < _ by omega)).trans hT8.2⟩
              clear hb
              refine hK _ _ (fun _ => hT9) ?_
              (try simp only [Act.put, List.setIfInBounds_toArray, List.set_cons_zero, List.set_cons_succ])
              refine wpAnyN_one (i := 14) (by kernel_rfl) rfl (fun K hK => ?_)
              simp only [List.getElem_toArray, List.getElem_cons_zero, List.getElem_cons_succ]
              go_simp
              refine hK _ _ (fun _ => hT9) ?_
              (try simp only [Act.put, List.setIfInBounds_toArray, List.set_cons_zero, List.set_cons_succ])
              refine wpAnyN_done (by kernel_rfl) ?_ _
              clear hT7 hT8 hT9
              go_wp2_with fail
              exact ⟨⟨j + 1, by go_num, by omega, HJ9⟩, by simp [intOf]; omega⟩
            · go_wp2_with fail
              exact ⟨⟨k + 1, by go_num, by omega, Lib.hid (HR6.out.trans (HJ.out.mono hzw))⟩, by simp [intOf]; omega⟩
        · go_wp2_with fail
          refine (awake_any _).mono ?_
          rintro e w2 ⟨rfl, hb2⟩
          have HB2 := Lib.hid (HB1.out.trans ((bNext HR.out hb2).mono hz1))
          clear hb2
          go_wp2_with fail
          go_ret
          exact ⟨rfl, HB2.out⟩
  · have d0 : decide ((60 : Int) < (n : Int)) = true := by simp; omega
    go_enter Try.func5, Try.ntmps5
    go_wp2_with fail
    refine (awake_any _).mono ?_
    rintro e w2 ⟨rfl, hb2⟩
    have HB2 := Lib.hid hb2
    clear hb2
    go_wp2_with fail
    go_ret
    exact ⟨rfl, HB2.out⟩
end Go.Proofs.Yteffpeokialeiaa
