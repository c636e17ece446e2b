/-
  The walk of the law IndexSelects.
-/
import Derived.Test.YtpkpdjekoghkcaaWn
import Derived.Test.YtpkpdjekoghkcaaPv
namespace Go.Proofs.Ytpkpdjekoghkcaa
open Go.RowKit

structure SelSt (w w' : World) (x : Ix) (k : K) (A0 : Option Addr) (c0 : Nat) (A1 : Option Addr) (c1 : Nat) (A2 : Option Addr) (c2 : Nat) : Prop where
  s : w'.cell? ⟨w.heap.size, 0, none⟩ = some (.slice A0 x.all.length c0) ∧ w'.cell? ⟨w.heap.size, 1, none⟩ = some (.slice A1 x.rows.length c1) ∧ w'.cell? ⟨w.heap.size, 2, none⟩ = some (.slice A2 x.rest.length c2) ∧ w'.cell? ⟨w.heap.size + 1, 0, none⟩ = some (.int .i64 k.kind) ∧ w'.cell? ⟨w.heap.size + 1, 1, none⟩ = some (.int .i64 k.n) ∧ w'.cell? ⟨w.heap.size + 1, 2, none⟩ = some (.string k.name) ∧ w'.cell? ⟨w.heap.size + 1, 3, none⟩ = some (.int .i64 k.ar)
  ix : IxAt w' w'.heap.size (.agg #[.slice A0 x.all.length c0, .slice A1 x.rows.length c1, .slice A2 x.rest.length c2]) x
  bel : Below w.heap.size w w'
  lt : w.heap.size + 1 < w'.heap.size
theorem SelSt.next {w w' w2 : World} {x : Ix} {k : K} {A0 A1 A2 : Option Addr} {c0 c1 c2 : Nat} (h : SelSt w w' x k A0 c0 A1 c1 A2 c2) (hb : Below w'.heap.size w' w2) : SelSt w w2 x k A0 c0 A1 c1 A2 c2 := by
  obtain ⟨⟨s0, s1, s2, s3, s4, s5, s6⟩, hx, hbl, hlt⟩ := h
  have l0 : w.heap.size < w'.heap.size := by omega
  exact ⟨⟨(hb.cell (p := ⟨w.heap.size, 0, none⟩) l0).trans s0, (hb.cell (p := ⟨w.heap.size, 1, none⟩) l0).trans s1, (hb.cell (p := ⟨w.heap.size, 2, none⟩) l0).trans s2, (hb.cell (p := ⟨w.heap.size + 1, 0, none⟩) hlt).trans s3, (hb.cell (p := ⟨w.heap.size + 1, 1, none⟩) hlt).trans s4, (hb.cell (p := ⟨w.heap.size + 1, 2, none⟩) hlt).trans s5, (hb.cell (p := ⟨w.heap.size + 1, 3, none⟩) hlt).trans s6⟩,
    (hx.below hb).more hb.size, bNext hbl hb, Nat.lt_of_lt_of_le hlt hb.size⟩

set_option maxRecDepth 100000 in
set_option maxHeartbeats 2000000 in
theorem law4_any (u : Value) (x : Ix) (k : K) (w : World) (hx : IxAt w w.heap.size u x) :
    Calls Try.prog 4 #[u, k.v] w fun e w' => e = .returned (.bool true) ∧ Below w.heap.size w w' := by
  have hx0 := hx
  obtain ⟨A0, c0, A1, c1, A2, c2, rfl, -, -, -⟩ := hx
  obtain ⟨W, HW⟩ : ∃ W, Hid (W = (w.alloc (.cells #[.slice A0 x.all.length c0, .slice A1 x.rows.length c1, .slice A2 x.rest.length c2] 26)).alloc (.cells #[.int .i64 k.kind, .int .i64 k.n, .string k.name, .int .i64 k.ar] 35)) := ⟨_, rfl⟩
  have hWb : Below w.heap.size w W := by rw [HW.out]; exact ((Below.refl _ _).alloc (Nat.le_refl _) _).alloc (by simp) _
  have st : SelSt w W x k A0 c0 A1 c1 A2 c2 := by
    refine ⟨?_, (hx0.below hWb).more hWb.size, hWb, by rw [HW.out]; simp⟩
    rw [HW.out]
    simp [go_sem]
  have ST := Lib.hid (st.next (w2 := W.drew) (bDrewN (Below.refl W.heap.size W) 1))
  obtain ⟨b, hv⟩ : ∃ b, validIx x = b := ⟨_, rfl⟩
  have HV := Lib.hid hv
  have HV2 := Lib.hid ((valid_iff x).trans hv)
  clear hx0 hWb st hv
  go_enter Try.func4, Try.ntmps4
  go_wp2_with fail
  rw [← HW.out]
  refine wp_region_N (fun w' => w'.cell? ⟨w.heap.size, 0, none⟩ = some (.slice A0 x.all.length c0) ∧ w'.cell? ⟨w.heap.size, 1, none⟩ = some (.slice A1 x.rows.length c1) ∧ w'.cell? ⟨w.heap.size, 2, none⟩ = some (.slice A2 x.rest.length c2) ∧ w'.cell? ⟨w.heap.size + 1, 0, none⟩ = some (.int .i64 k.kind) ∧ w'.cell? ⟨w.heap.size + 1, 1, none⟩ = some (.int .i64 k.n) ∧ w'.cell? ⟨w.heap.size + 1, 2, none⟩ = some (.string k.name) ∧ w'.cell? ⟨w.heap.size + 1, 3, none⟩ = some (.int .i64 k.ar)) (fun i => true) (by kernel_rfl) ?_
  have hS0 := ST.out.s
  refine wpAnyN_take (i := 0) (v := ?v1) rfl (by kernel_rfl) (by kernel_rfl) (by kernel_rfl) (by kernel_rfl) (fun _ _ _ h => h) (Or.inl ⟨by rfl, ?hy1⟩) (by assumption) ?_
  case hy1 => intro w hSw; (try dsimp only at hSw); go_simp; try with_reducible rfl
  simp only [Act.put, List.getElem_toArray, List.getElem_cons_zero, List.setIfInBounds_toArray, List.set_cons_zero, List.set_cons_succ]
  refine wpAnyN_take (i := 2) (v := ?v2) rfl (by kernel_rfl) (by kernel_rfl) (by kernel_rfl) (by kernel_rfl) (fun _ _ _ h => h) (Or.inl ⟨by rfl, ?hy2⟩) (by assumption) ?_
  case hy2 => intro w hSw; (try dsimp only at hSw); go_simp; try with_reducible rfl
  simp only [Act.put, List.getElem_toArray, List.getElem_cons_zero, List.getElem_cons_succ, List.setIfInBounds_toArray, List.set_cons_zero, List.set_cons_succ]
  refine wpAnyN_one (i := 1) (by kernel_rfl) rfl (fun K hK => ?_)
  simp only [List.getElem_toArray, List.getElem_cons_zero, List.getElem_cons_succ]
  go_simp
  refine (Valid_any _ x _ (by exact ST.out.ix)).mono ?_
  rintro e y0 ⟨rfl, hb⟩
  have T0 := Lib.hid (ST.out.next (w2 := y0) (hb))
  have hS1 := T0.out.s
  rw [HV.out]
  clear hb hS0
  refine hK _ _ (fun _ => hS1) ?_
  refine wpAnyN_one (i := 3) (by kernel_rfl) rfl (fun K hK => ?_)
  simp only [List.getElem_toArray, List.getElem_cons_zero, List.getElem_cons_succ]
  go_simp
  refine (refValid_any _ x _ (by exact T0.out.ix)).mono ?_
  rintro e y1 ⟨rfl, hb⟩
  have T1 := Lib.hid (T0.out.next (w2 := y1) (hb))
  have hS2 := T1.out.s
  rw [HV2.out]
  clear hb hS1
  refine hK _ _ (fun _ => hS2) ?_
  refine wpAnyN_take (i := 4) (v := ?v3) rfl (by kernel_rfl) (by kernel_rfl) (by kernel_rfl) (by kernel_rfl) (fun _ _ _ h => h) (Or.inl ⟨by rfl, ?hy3⟩) (by assumption) ?_
  case hy3 => intro w hSw; (try dsimp only at hSw); go_simp; try with_reducible rfl
  simp only [Act.put, List.getElem_toArray, List.getElem_cons_zero, List.getElem_cons_succ, List.setIfInBounds_toArray, List.set_cons_zero, List.set_cons_succ]
  refine wpAnyN_take (i := 5) (v := ?v4) rfl (by kernel_rfl) (by kernel_rfl) (by kernel_rfl) (by kernel_rfl) (fun _ _ _ h => h) (Or.inl ⟨by rfl, ?hy4⟩) (by assumption) ?_
  case hy4 => intro w hSw; (try dsimp only at hSw); go_simp; try with_reducible rfl
  simp only [Act.put, List.getElem_toArray, List.getElem_cons_zero, List.getElem_cons_succ, List.setIfInBounds_toArray, List.set_cons_zero, List.set_cons_succ]
  refine wpAnyN_take (i := 6) (v := ?v5) rfl (by kernel_rfl) (by kernel_rfl) (by kernel_rfl) (by kernel_rfl) (fun _ _ _ h => h) (Or.inl ⟨by rfl, ?hy5⟩) (by assumption) ?_
  case hy5 => intro w hSw; (try dsimp only at hSw); go_simp; try with_reducible rfl
  simp only [Act.put, List.getElem_toArray, List.getElem_cons_zero, List.getElem_cons_succ, List.setIfInBounds_toArray, List.set_cons_zero, List.set_cons_succ]
  refine wpAnyN_take (i := 7) (v := ?v6) rfl (by kernel_rfl) (by kernel_rfl) (by kernel_rfl) (by kernel_rfl) (fun _ _ _ h => h) (Or.inl ⟨by rfl, ?hy6⟩) (by assumption) ?_
  case hy6 => intro w hSw; (try dsimp only at hSw); go_simp; try with_reducible rfl
  simp only [Act.put, List.getElem_toArray, List.getElem_cons_zero, List.getElem_cons_succ, List.setIfInBounds_toArray, List.set_cons_zero, List.set_cons_succ]
  refine wpAnyN_take (i := 9) (v := ?v7) rfl (by kernel_rfl) (by kernel_rfl) (by kernel_rfl) (by kernel_rfl) (fun _ _ _ h => h) (Or.inl ⟨by rfl, ?hy7⟩) (by assumption) ?_
  case hy7 => intro w hSw; (try dsimp only at hSw); go_simp; try with_reducible rfl
  simp only [Act.put, List.getElem_toArray, List.getElem_cons_zero, List.getElem_cons_succ, List.setIfInBounds_toArray, List.set_cons_zero, List.set_cons_succ]
  refine wpAnyN_take (i := 10) (v := ?v8) rfl (by kernel_rfl) (by kernel_rfl) (by kernel_rfl) (by kernel_rfl) (fun _ _ _ h => h) (Or.inl ⟨by rfl, ?hy8⟩) (by assumption) ?_
  case hy8 => intro w hSw; (try dsimp only at hSw); go_simp; try with_reducible rfl
  simp only [Act.put, List.getElem_toArray, List.getElem_cons_zero, List.getElem_cons_succ, List.setIfInBounds_toArray, List.set_cons_zero, List.set_cons_succ]
  refine wpAnyN_one (i := 8) (by kernel_rfl) rfl (fun K hK => ?_)
  simp only [List.getElem_toArray, List.getElem_cons_zero, List.getElem_cons_succ]
  rw [if_pos (by rfl)]
  go_simp
  refine (Select_any _ x k _ (by exact T1.out.ix)).mono ?_
  rintro e y2 ⟨⟨B1, n1, d1, rfl, hs1⟩, hb⟩
  have T2 := Lib.hid (T1.out.next (w2 := y2) (hb))
  have hS3 := T2.out.s
  rw [HV.out] at hs1
  have HS1 := Lib.hid hs1
  clear hb hS2 hs1
  refine hK _ _ (fun _ => hS3) ?_
  refine wpAnyN_one (i := 11) (by kernel_rfl) rfl (fun K hK => ?_)
  simp only [List.getElem_toArray, List.getElem_cons_zero, List.getElem_cons_succ]
  rw [if_pos (by rfl)]
  go_simp
  refine (refSelect_any _ x k _ (by exact T2.out.ix)).mono ?_
  rintro e y3 ⟨⟨B2, n2, d2, rfl, hs2⟩, hb⟩
  have T3 := Lib.hid (T2.out.next (w2 := y3) (hb))
  have hS4 := T3.out.s
  rw [HV2.out] at hs2
  have HS2 := Lib.hid hs2
  have HS3 := Lib.hid ((HS1.out.below hb).more hb.size)
  clear hb hS3 hs2
  refine hK _ _ (fun _ => hS4) ?_
  refine wpAnyN_one (i := 12) (by kernel_rfl) rfl (fun K hK => ?_)
  simp only [List.getElem_toArray, List.getElem_cons_zero, List.getElem_cons_succ]
  rw [if_pos (by rfl)]
  go_simp
  refine (same_any B1 B2 n1 n2 d1 d2 (selIx b x k) (selIx b x k) _ HS3.out HS2.out).mono ?_
  rintro e y4 ⟨rfl, qq, e4⟩
  have T4 := Lib.hid (T3.out.next (w2 := y4) (by rw [e4]; exact bDrewN (Below.refl _ _) qq))
  have hS5 := T4.out.s
  rw [show sameL (selIx b x k) (selIx b x k) = true from decide_eq_true rfl]
  clear e4 hS4
  refine hK _ _ (fun _ => hS5) ?_
  refine wpAnyN_take (i := 13) (v := ?v9) rfl (by kernel_rfl) (by kernel_rfl) (by kernel_rfl) (by kernel_rfl) (fun _ _ _ h => h) (Or.inl ⟨by rfl, ?hy9⟩) (by assumption) ?_
  case hy9 => intro w hSw; (try dsimp only at hSw); go_simp; try with_reducible rfl
  simp only [Act.put, List.getElem_toArray, List.getElem_cons_zero, List.getElem_cons_succ, List.setIfInBounds_toArray, List.set_cons_zero, List.set_cons_succ]
  refine wpAnyN_take (i := 14) (v := ?v10) rfl (by kernel_rfl) (by kernel_rfl) (by kernel_rfl) (by kernel_rfl) (fun _ _ _ h => h) (Or.inl ⟨by rfl, ?hy10⟩) (by assumption) ?_
  case hy10 => intro w hSw; (try dsimp only at hSw); go_simp; try with_reducible rfl
  simp only [Act.put, List.getElem_toArray, List.getElem_cons_zero, List.getElem_cons_succ, List.setIfInBounds_toArray, List.set_cons_zero, List.set_cons_succ]
  refine wpAnyN_take (i := 15) (v := ?v11) rfl (by kernel_rfl) (by kernel_rfl) (by kernel_rfl) (by kernel_rfl) (fun _ _ _ h => h) (Or.inl ⟨by rfl, ?hy11⟩) (by assumption) ?_
  case hy11 => intro w hSw; (try dsimp only at hSw); go_simp; try with_reducible rfl
  simp only [Act.put, List.getElem_toArray, List.getElem_cons_zero, List.getElem_cons_succ, List.setIfInBounds_toArray, List.set_cons_zero, List.set_cons_succ]
  refine wpAnyN_take (i := 17) (v := ?v12) rfl (by kernel_rfl) (by kernel_rfl) (by kernel_rfl) (by kernel_rfl) (fun _ _ _ h => h) (Or.inl ⟨by rfl, ?hy12⟩) (by assumption) ?_
  case hy12 => intro w hSw; (try dsimp only at hSw); go_simp; try with_reducible rfl
  simp only [Act.put, List.getElem_toArray, List.getElem_cons_zero, List.getElem_cons_succ, List.setIfInBounds_toArray, List.set_cons_zero, List.set_cons_succ]
  refine wpAnyN_one (i := 16) (by kernel_rfl) rfl (fun K hK => ?_)
  simp only [List.getElem_toArray, List.getElem_cons_zero, List.getElem_cons_succ]
  rw [if_pos (by rfl)]
  go_simp
  refine (Exclusive_any _ x _ (by exact T4.out.ix)).mono ?_
  rintro e y5 ⟨rfl, hb⟩
  have T5 := Lib.hid (T4.out.next (w2 := y5) (hb))
  have hS6 := T5.out.s
  rw [HV.out]
  clear hb hS5
  refine hK _ _ (fun _ => hS6) ?_
  refine wpAnyN_one (i := 18) (by kernel_rfl) rfl (fun K hK => ?_)
  simp only [List.getElem_toArray, List.getElem_cons_zero, List.getElem_cons_succ]
  rw [if_pos (by rfl)]
  go_simp
  refine (refExclusive_any _ x _ (by exact T5.out.ix)).mono ?_
  rintro e y6 ⟨rfl, hb⟩
  have T6 := Lib.hid (T5.out.next (w2 := y6) (hb))
  have hS7 := T6.out.s
  rw [HV2.out]
  clear hb hS6
  refine hK _ _ (fun _ => hS7) ?_
  refine wpAnyN_take (i := 19) (v := ?v13) rfl (by kernel_rfl) (by kernel_rfl) (by kernel_rfl) (by kernel_rfl) (fun _ _ _ h => h) (Or.inl ⟨by rfl, ?hy13⟩) (by assumption) ?_
  case hy13 => intro w hSw; (try dsimp only at hSw); go_simp; try with_reducible rfl
  simp only [Act.put, List.getElem_toArray, List.getElem_cons_zero, List.getElem_cons_succ, List.setIfInBounds_toArray, List.set_cons_zero, List.set_cons_succ]
  refine wpAnyN_take (i := 20) (v := ?v14) rfl (by kernel_rfl) (by kernel_rfl) (by kernel_rfl) (by kernel_rfl) (fun _ _ _ h => h) (Or.inl ⟨by rfl, ?hy14⟩) (by assumption) ?_
  case hy14 => intro w hSw; (try dsimp only at hSw); go_simp; try with_reducible rfl
  simp only [Act.put, List.getElem_toArray, List.getElem_cons_zero, List.getElem_cons_succ, List.setIfInBounds_toArray, List.set_cons_zero, List.set_cons_succ]
  refine wpAnyN_take (i := 21) (v := ?v15) rfl (by kernel_rfl) (by kernel_rfl) (by kernel_rfl) (by kernel_rfl) (fun _ _ _ h => h) (Or.inl ⟨by rfl, ?hy15⟩) (by assumption) ?_
  case hy15 => intro w hSw; (try dsimp only at hSw); go_simp; try with_reducible rfl
  simp only [Act.put, List.getElem_toArray, List.getElem_cons_zero, List.getElem_cons_succ, List.setIfInBounds_toArray, List.set_cons_zero, List.set_cons_succ]
  refine wpAnyN_one (i := 22) (by kernel_rfl) rfl (fun K hK => ?_)
  simp only [List.getElem_toArray, List.getElem_cons_zero, List.getElem_cons_succ]
  rw [if_pos (by rfl)]
  go_simp
  refine (example_any _).mono ?_
  rintro e y7 ⟨rfl, hb⟩
  have T7 := Lib.hid (T6.out.next (w2 := y7) (hb))
  have hS8 := T7.out.s
  clear hb hS7
  refine hK _ _ (fun _ => hS8) ?_
  refine wpAnyN_take (i := 23) (v := ?v16) rfl (by kernel_rfl) (by kernel_rfl) (by kernel_rfl) (by kernel_rfl) (fun _ _ _ h => h) (Or.inl ⟨by rfl, ?hy16⟩) (by assumption) ?_
  case hy16 => intro w hSw; (try dsimp only at hSw); go_simp; try with_reducible rfl
  simp only [Act.put, List.getElem_toArray, List.getElem_cons_zero, List.getElem_cons_succ, List.setIfInBounds_toArray, List.set_cons_zero, List.set_cons_succ]
  refine wpAnyN_take (i := 24) (v := ?v17) rfl (by kernel_rfl) (by kernel_rfl) (by kernel_rfl) (by kernel_rfl) (fun _ _ _ h => h) (Or.inl ⟨by rfl, ?hy17⟩) (by assumption) ?_
  case hy17 => intro w hSw; (try dsimp only at hSw); go_simp; try with_reducible rfl
  simp only [Act.put, List.getElem_toArray, List.getElem_cons_zero, List.getElem_cons_succ, List.setIfInBounds_toArray, List.set_cons_zero, List.set_cons_succ]
  refine wpAnyN_done (by kernel_rfl) ?_ _
  have HBEL := Lib.hid T7.out.bel
  go_wp2_with fail
  go_ret
  exact ⟨rfl, HBEL.out⟩
end Go.Proofs.Ytpkpdjekoghkcaa
