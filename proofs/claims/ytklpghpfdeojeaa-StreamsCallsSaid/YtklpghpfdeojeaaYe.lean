/-
  The law of StreamsCalls.
-/
import Derived.Test.YtklpghpfdeojeaaYd
import Derived.Test.YtklpghpfdeojeaaWa
import Derived.Test.YtklpghpfdeojeaaSh
namespace Go.Proofs.Ytklpghpfdeojeaa
open Go.RowKit

set_option maxHeartbeats 1000000 in
theorem t_eql (a e : Int) (t : ByteArray) (b : Bool) (w : World) :
    (binOp .eql 61 (.agg #[.int .i64 a, .string t, .bool b, .int .i64 e]) (.agg #[.int .i64 a, .string t, .bool b, .int .i64 e])).run Try.prog w = .ok (.bool true) w := by
  go_simp
  try simp
/-- the call's state where it was left -/
theorem RetA.at {v v' : Value} {s u : Sm} {w w' : World} (h : FreshS w' w.heap.size v' u ∨ v' = v ∧ u = s) (hs : SmAt w w.heap.size v s) (hb : Below w.heap.size w w') : SmAt w' w'.heap.size v' u := by
  rcases h with h | ⟨rfl, rfl⟩
  · exact h.at
  · exact hs.next hb

set_option maxHeartbeats 8000000 in
set_option maxRecDepth 100000 in
theorem law_calls (v : Value) (s : Sm) (x : A) (w : World) (hs : SmAt w w.heap.size v s) :
    Calls Try.prog 8 #[v, x.v] w fun e w' => e = .returned (.bool true) ∧ Below w.heap.size w w' := by
  obtain ⟨r, hr⟩ : ∃ r, Hid (actV s x = r) := ⟨_, rfl⟩
  obtain ⟨u, tn, tt, ti, te⟩ := r
  have HS := Lib.hid hs
  clear hs
  have hact : ∀ w : World, ∀ v, SmAt w w.heap.size v s → Calls Try.prog 26 #[v, x.v] w (RetA v s (u, ⟨tn, tt, ti, te⟩) w) := fun w v h => by rw [← hr.out]; exact act_any v s x w h
  have hwant : ∀ w : World, ∀ v, SmAt w w.heap.size v s → Calls Try.prog 27 #[v, x.v] w (RetA v s (u, ⟨tn, tt, ti, te⟩) w) := fun w v h => by rw [← hr.out]; exact want_any v s x w h
  have HACT := Lib.hid hact
  have HWANT := Lib.hid hwant
  clear hact hwant hr
  obtain ⟨what, di, n, eof, name, al⟩ := x
  dsimp only [A.v] at HACT HWANT ⊢
  obtain ⟨A0, a0, A1, a1, hv, -, -, -⟩ := (show _ from HS.out)
  obtain rfl : v = .agg #[.slice A0 s.files.length a0, .slice A1 s.opn.length a1, .int .i64 s.inp, .int .i64 s.out, .int .i64 s.nxt] := hv
  have hbW : Below w.heap.size w ((w.alloc (.cells #[.slice A0 s.files.length a0, .slice A1 s.opn.length a1, .int .i64 s.inp, .int .i64 s.out, .int .i64 s.nxt] 25)).alloc (.cells #[.int .i64 what, .int .i64 di, .int .i64 n, .int .i64 eof, .string name, .string al] 58)) := Below.alloc (bAlloc w _) (by simp) _
  have k0 := (Blk.new w 25 #[.slice A0 s.files.length a0, .slice A1 s.opn.length a1, .int .i64 s.inp, .int .i64 s.out, .int .i64 s.nxt]).alloc (.cells #[.int .i64 what, .int .i64 di, .int .i64 n, .int .i64 eof, .string name, .string al] 58)
  have k1 : Blk ((w.alloc (.cells #[.slice A0 s.files.length a0, .slice A1 s.opn.length a1, .int .i64 s.inp, .int .i64 s.out, .int .i64 s.nxt] 25)).alloc (.cells #[.int .i64 what, .int .i64 di, .int .i64 n, .int .i64 eof, .string name, .string al] 58)) (w.heap.size + 1) 58 #[.int .i64 what, .int .i64 di, .int .i64 n, .int .i64 eof, .string name, .string al] := by
    have h := Blk.new (w.alloc (.cells #[.slice A0 s.files.length a0, .slice A1 s.opn.length a1, .int .i64 s.inp, .int .i64 s.out, .int .i64 s.nxt] 25)) 58 #[.int .i64 what, .int .i64 di, .int .i64 n, .int .i64 eof, .string name, .string al]
    rw [World.size_alloc] at h
    exact h
  have HB0 := Lib.hid hbW
  clear hbW
  go_enter Try.func8, Try.ntmps8
  go_wp2_with fail
  refine (clone_any _ s _ (HS.out.next HB0.out)).mono ?_
  rintro e w1 ⟨⟨v', rfl, ho⟩, hb1⟩
  have HO1 := Lib.hid ho
  clear ho
  obtain ⟨B0, b0, B1, b1, hv, -, -, -⟩ := (show _ from HO1.out)
  obtain rfl : v' = .agg #[.slice B0 s.files.length b0, .slice B1 s.opn.length b1, .int .i64 s.inp, .int .i64 s.out, .int .i64 s.nxt] := hv
  have hba := bAlloc w1 (.cells #[.slice B0 s.files.length b0, .slice B1 s.opn.length b1, .int .i64 s.inp, .int .i64 s.out, .int .i64 s.nxt] 25)
  obtain ⟨W1, HW1⟩ : ∃ W1, Hid (W1 = w1.alloc (.cells #[.slice B0 s.files.length b0, .slice B1 s.opn.length b1, .int .i64 s.inp, .int .i64 s.out, .int .i64 s.nxt] 25)) := ⟨_, rfl⟩
  have HB1 := Lib.hid (bNext (bNext HB0.out hb1) hba)
  have HO1a := Lib.hid (HO1.out.next hba)
  have HS1 := Lib.hid (((HS.out.next HB0.out).next hb1).next hba)
  have m0 := (k0.next hb1).next hba
  have m1 := (k1.next hb1).next hba
  have m5 := Blk.new w1 25 #[.slice B0 s.files.length b0, .slice B1 s.opn.length b1, .int .i64 s.inp, .int .i64 s.out, .int .i64 s.nxt]
  rw [← HW1.out] at HB1 HO1a HS1 m0 m1 m5
  have z5 := m5.lt
  have p0 := m0.cell 0
  have p1 := m0.cell 1
  have p2 := m0.cell 2
  have p3 := m0.cell 3
  have p4 := m0.cell 4
  have x0 := m1.cell 0
  have x1 := m1.cell 1
  have x2 := m1.cell 2
  have x3 := m1.cell 3
  have x4 := m1.cell 4
  have x5 := m1.cell 5
  simp at p0 p1 p2 p3 p4 x0 x1 x2 x3 x4 x5
  clear HO1 hb1 hba k0 k1
  go_upto_region 2 with fail
  rw [← HW1.out]
  clear HW1
  go_wp2_with fail
  refine (HACT.out _ _ HS1.out).mono ?_
  rintro e w2 ⟨⟨v', rfl, hf⟩, hb2⟩
  have HN2 := Lib.hid (RetA.at hf HS1.out hb2)
  have HB2 := Lib.hid (bNext HB1.out hb2)
  have HO2 := Lib.hid (HO1a.out.next hb2)
  have HS2 := Lib.hid (HS1.out.next hb2)
  have n0 := m0.next hb2
  have n1 := m1.next hb2
  have n5 := m5.next hb2
  clear hf hb2 m0 m1 m5 p0 p1 p2 p3 p4 x0 x1 x2 x3 x4 x5 HO1a HS1 z5
  obtain ⟨C0, c0, C1, c1, hv, -, -, -⟩ := (show _ from HN2.out)
  obtain rfl : v' = .agg #[.slice C0 u.files.length c0, .slice C1 u.opn.length c1, .int .i64 u.inp, .int .i64 u.out, .int .i64 u.nxt] := hv
  dsimp only [T.v]
  obtain ⟨W2, HW2⟩ : ∃ W2, Hid (W2 = ((w2.alloc (.cells #[.slice C0 u.files.length c0, .slice C1 u.opn.length c1, .int .i64 u.inp, .int .i64 u.out, .int .i64 u.nxt] 25)).alloc (.cells #[.int .i64 tn, .string tt, .bool ti, .int .i64 te] 61))) := ⟨_, rfl⟩
  have hba : Below w2.heap.size w2 W2 := by rw [HW2.out]; exact Below.alloc (bAlloc w2 _) (by simp) _
  have HB2a := Lib.hid (bNext HB2.out hba)
  have HN2a := Lib.hid (HN2.out.next hba)
  have HO2a := Lib.hid (HO2.out.next hba)
  have HS2a := Lib.hid (HS2.out.next hba)
  have m0 := n0.next hba
  have m1 := n1.next hba
  have m5 := n5.next hba
  have m6 : Blk W2 w2.heap.size 25 #[.slice C0 u.files.length c0, .slice C1 u.opn.length c1, .int .i64 u.inp, .int .i64 u.out, .int .i64 u.nxt] := by rw [HW2.out]; exact (Blk.new w2 25 _).alloc _
  have m7 : Blk W2 (w2.heap.size + 1) 61 #[.int .i64 tn, .string tt, .bool ti, .int .i64 te] := by
    have h := Blk.new (w2.alloc (.cells #[.slice C0 u.files.length c0, .slice C1 u.opn.length c1, .int .i64 u.inp, .int .i64 u.out, .int .i64 u.nxt] 25)) 61 #[.int .i64 tn, .string tt, .bool ti, .int .i64 te]
    rw [World.size_alloc] at h
    rw [HW2.out]; exact h
  have z7 := m7.lt
  have p0 := m5.cell 0
  have p1 := m5.cell 1
  have p2 := m5.cell 2
  have p3 := m5.cell 3
  have p4 := m5.cell 4
  have x0 := m1.cell 0
  have x1 := m1.cell 1
  have x2 := m1.cell 2
  have x3 := m1.cell 3
  have x4 := m1.cell 4
  have x5 := m1.cell 5
  simp at p0 p1 p2 p3 p4 x0 x1 x2 x3 x4 x5
  clear hba n0 n1 n5 HN2 HO2 HS2 HB2 HB1
  go_upto_region 3 with fail
  rw [← HW2.out]
  clear HW2
  go_wp2_with fail
  refine (HWANT.out _ _ HO2a.out).mono ?_
  rintro e w3 ⟨⟨v', rfl, hf⟩, hb3⟩
  have HM3 := Lib.hid (RetA.at hf HO2a.out hb3)
  have HB3 := Lib.hid (bNext HB2a.out hb3)
  have HO3 := Lib.hid (HO2a.out.next hb3)
  have HS3 := Lib.hid (HS2a.out.next hb3)
  have HN3 := Lib.hid (HN2a.out.next hb3)
  have n0 := m0.next hb3
  have n5 := m5.next hb3
  have n6 := m6.next hb3
  have n7 := m7.next hb3
  clear hf hb3 m0 m1 m5 m6 m7 p0 p1 p2 p3 p4 x0 x1 x2 x3 x4 x5 HO2a HS2a HN2a HB2a z7
  obtain ⟨D0, d0, D1, d1, hv, -, -, -⟩ := (show _ from HM3.out)
  obtain rfl : v' = .agg #[.slice D0 u.files.length d0, .slice D1 u.opn.length d1, .int .i64 u.inp, .int .i64 u.out, .int .i64 u.nxt] := hv
  dsimp only [T.v]
  obtain ⟨W3, HW3⟩ : ∃ W3, Hid (W3 = ((w3.alloc (.cells #[.slice D0 u.files.length d0, .slice D1 u.opn.length d1, .int .i64 u.inp, .int .i64 u.out, .int .i64 u.nxt] 25)).alloc (.cells #[.int .i64 tn, .string tt, .bool ti, .int .i64 te] 61))) := ⟨_, rfl⟩
  have hba : Below w3.heap.size w3 W3 := by rw [HW3.out]; exact Below.alloc (bAlloc w3 _) (by simp) _
  have HB := Lib.hid (bNext HB3.out hba)
  have HM := Lib.hid (HM3.out.next hba)
  have HN := Lib.hid (HN3.out.next hba)
  have HO := Lib.hid (HO3.out.next hba)
  have HSn := Lib.hid (HS3.out.next hba)
  have m0 := n0.next hba
  have m5 := n5.next hba
  have m6 := n6.next hba
  have m7 := n7.next hba
  have m8 : Blk W3 w3.heap.size 25 #[.slice D0 u.files.length d0, .slice D1 u.opn.length d1, .int .i64 u.inp, .int .i64 u.out, .int .i64 u.nxt] := by rw [HW3.out]; exact (Blk.new w3 25 _).alloc _
  have m9 : Blk W3 (w3.heap.size + 1) 61 #[.int .i64 tn, .string tt, .bool ti, .int .i64 te] := by
    have h := Blk.new (w3.alloc (.cells #[.slice D0 u.files.length d0, .slice D1 u.opn.length d1, .int .i64 u.inp, .int .i64 u.out, .int .i64 u.nxt] 25)) 61 #[.int .i64 tn, .string tt, .bool ti, .int .i64 te]
    rw [World.size_alloc] at h
    rw [HW3.out]; exact h
  have hbd : Below W3.heap.size W3 W3.drew := bDrewN (Below.refl _ _) 1
  have HBd := Lib.hid (bNext HB.out hbd)
  have HMd := Lib.hid (HM.out.next hbd)
  have HNd := Lib.hid (HN.out.next hbd)
  have HOd := Lib.hid (HO.out.next hbd)
  have HSd := Lib.hid (HSn.out.next hbd)
  clear hba hbd n0 n5 n6 n7 HM3 HN3 HO3 HS3 HB3 HB HM HN HO HSn
  go_upto_region 4 with fail
  rw [← HW3.out]
  clear HW3
  refine wp_region_N (fun w' => Blk w' w.heap.size 25 #[.slice A0 s.files.length a0, .slice A1 s.opn.length a1, .int .i64 s.inp, .int .i64 s.out, .int .i64 s.nxt] ∧ Blk w' w1.heap.size 25 #[.slice B0 s.files.length b0, .slice B1 s.opn.length b1, .int .i64 s.inp, .int .i64 s.out, .int .i64 s.nxt] ∧ Blk w' w2.heap.size 25 #[.slice C0 u.files.length c0, .slice C1 u.opn.length c1, .int .i64 u.inp, .int .i64 u.out, .int .i64 u.nxt] ∧ Blk w' (w2.heap.size + 1) 61 #[.int .i64 tn, .string tt, .bool ti, .int .i64 te] ∧ Blk w' w3.heap.size 25 #[.slice D0 u.files.length d0, .slice D1 u.opn.length d1, .int .i64 u.inp, .int .i64 u.out, .int .i64 u.nxt] ∧ Blk w' (w3.heap.size + 1) 61 #[.int .i64 tn, .string tt, .bool ti, .int .i64 te]) (fun _ => true) (by kernel_rfl) ?_
  have hS0 : (fun w' => Blk w' w.heap.size 25 #[.slice A0 s.files.length a0, .slice A1 s.opn.length a1, .int .i64 s.inp, .int .i64 s.out, .int .i64 s.nxt] ∧ Blk w' w1.heap.size 25 #[.slice B0 s.files.length b0, .slice B1 s.opn.length b1, .int .i64 s.inp, .int .i64 s.out, .int .i64 s.nxt] ∧ Blk w' w2.heap.size 25 #[.slice C0 u.files.length c0, .slice C1 u.opn.length c1, .int .i64 u.inp, .int .i64 u.out, .int .i64 u.nxt] ∧ Blk w' (w2.heap.size + 1) 61 #[.int .i64 tn, .string tt, .bool ti, .int .i64 te] ∧ Blk w' w3.heap.size 25 #[.slice D0 u.files.length d0, .slice D1 u.opn.length d1, .int .i64 u.inp, .int .i64 u.out, .int .i64 u.nxt] ∧ Blk w' (w3.heap.size + 1) 61 #[.int .i64 tn, .string tt, .bool ti, .int .i64 te]) W3.drew := ⟨m0, m5, m6, m7, m8, m9⟩
  refine wpAnyN_take (i := 0) (v := ?v1) rfl (by kernel_rfl) (by kernel_rfl) (by kernel_rfl) (by kernel_rfl) (fun _ _ _ h => h) (Or.inl ⟨by rfl, ?hy1⟩) (by assumption) ?_
  case hy1 => intro w hSw; obtain ⟨u0, u5, u6, u7, u8, u9⟩ := hSw; have e0 := u7.cell 0; have e1 := u7.cell 1; have e2 := u7.cell 2; have e3 := u7.cell 3; simp at e0 e1 e2 e3; go_simp; try with_reducible rfl
  simp only [Act.put, List.getElem_toArray, List.getElem_cons_zero, List.setIfInBounds_toArray, List.set_cons_zero, List.set_cons_succ]
  refine wpAnyN_take (i := 1) (v := ?v2) rfl (by kernel_rfl) (by kernel_rfl) (by kernel_rfl) (by kernel_rfl) (fun _ _ _ h => h) (Or.inl ⟨by rfl, ?hy2⟩) (by assumption) ?_
  case hy2 => intro w hSw; obtain ⟨u0, u5, u6, u7, u8, u9⟩ := hSw; have e0 := u9.cell 0; have e1 := u9.cell 1; have e2 := u9.cell 2; have e3 := u9.cell 3; simp at e0 e1 e2 e3; go_simp; try with_reducible rfl
  simp only [Act.put, List.getElem_toArray, List.getElem_cons_zero, List.getElem_cons_succ, List.setIfInBounds_toArray, List.set_cons_zero, List.set_cons_succ]
  refine wpAnyN_take (i := 2) (v := ?v3) rfl (by kernel_rfl) (by kernel_rfl) (by kernel_rfl) (by kernel_rfl) (fun _ _ _ h => h) (Or.inl ⟨by rfl, ?hy3⟩) (by assumption) ?_
  case hy3 => intro w hSw; have te := t_eql; go_simp; try with_reducible rfl
  simp only [Act.put, List.getElem_toArray, List.getElem_cons_zero, List.getElem_cons_succ, List.setIfInBounds_toArray, List.set_cons_zero, List.set_cons_succ]
  refine wpAnyN_take (i := 3) (v := ?v4) rfl (by kernel_rfl) (by kernel_rfl) (by kernel_rfl) (by kernel_rfl) (fun _ _ _ h => h) (Or.inl ⟨by rfl, ?hy4⟩) (by assumption) ?_
  case hy4 => intro w hSw; have te := t_eql; go_simp; try with_reducible rfl
  simp only [Act.put, List.getElem_toArray, List.getElem_cons_zero, List.getElem_cons_succ, List.setIfInBounds_toArray, List.set_cons_zero, List.set_cons_succ]
  refine wpAnyN_take (i := 4) (v := ?v5) rfl (by kernel_rfl) (by kernel_rfl) (by kernel_rfl) (by kernel_rfl) (fun _ _ _ h => h) (Or.inl ⟨by rfl, ?hy5⟩) (by assumption) ?_
  case hy5 => intro w hSw; obtain ⟨u0, u5, u6, u7, u8, u9⟩ := hSw; have e0 := u6.cell 0; have e1 := u6.cell 1; have e2 := u6.cell 2; have e3 := u6.cell 3; have e4 := u6.cell 4; simp at e0 e1 e2 e3 e4; go_simp; try with_reducible rfl
  simp only [Act.put, List.getElem_toArray, List.getElem_cons_zero, List.getElem_cons_succ, List.setIfInBounds_toArray, List.set_cons_zero, List.set_cons_succ]
  refine wpAnyN_take (i := 5) (v := ?v6) rfl (by kernel_rfl) (by kernel_rfl) (by kernel_rfl) (by kernel_rfl) (fun _ _ _ h => h) (Or.inl ⟨by rfl, ?hy6⟩) (by assumption) ?_
  case hy6 => intro w hSw; obtain ⟨u0, u5, u6, u7, u8, u9⟩ := hSw; have e0 := u8.cell 0; have e1 := u8.cell 1; have e2 := u8.cell 2; have e3 := u8.cell 3; have e4 := u8.cell 4; simp at e0 e1 e2 e3 e4; go_simp; try with_reducible rfl
  simp only [Act.put, List.getElem_toArray, List.getElem_cons_zero, List.getElem_cons_succ, List.setIfInBounds_toArray, List.set_cons_zero, List.set_cons_succ]
  refine wpAnyN_one (i := 6) (by kernel_rfl) rfl (fun K hK => ?_)
  simp only [List.getElem_toArray, List.getElem_cons_zero, List.getElem_cons_succ]
  go_simp
  refine (same12_any _ _ u _ HNd.out HMd.out).mono ?_
  rintro e w4 ⟨rfl, hb4⟩
  have hS4 : (fun w' => Blk w' w.heap.size 25 #[.slice A0 s.files.length a0, .slice A1 s.opn.length a1, .int .i64 s.inp, .int .i64 s.out, .int .i64 s.nxt] ∧ Blk w' w1.heap.size 25 #[.slice B0 s.files.length b0, .slice B1 s.opn.length b1, .int .i64 s.inp, .int .i64 s.out, .int .i64 s.nxt] ∧ Blk w' w2.heap.size 25 #[.slice C0 u.files.length c0, .slice C1 u.opn.length c1, .int .i64 u.inp, .int .i64 u.out, .int .i64 u.nxt] ∧ Blk w' (w2.heap.size + 1) 61 #[.int .i64 tn, .string tt, .bool ti, .int .i64 te] ∧ Blk w' w3.heap.size 25 #[.slice D0 u.files.length d0, .slice D1 u.opn.length d1, .int .i64 u.inp, .int .i64 u.out, .int .i64 u.nxt] ∧ Blk w' (w3.heap.size + 1) 61 #[.int .i64 tn, .string tt, .bool ti, .int .i64 te]) w4 := by
    obtain ⟨u0, u5, u6, u7, u8, u9⟩ := hS0
    exact ⟨u0.next hb4, u5.next hb4, u6.next hb4, u7.next hb4, u8.next hb4, u9.next hb4⟩
  have HB4 := Lib.hid (bNext HBd.out hb4)
  have HO4 := Lib.hid (HOd.out.next hb4)
  have HS4 := Lib.hid (HSd.out.next hb4)
  clear hb4 hS0
  refine hK _ _ (fun _ => hS4) ?_
  refine wpAnyN_take (i := 7) (v := ?v7) rfl (by kernel_rfl) (by kernel_rfl) (by kernel_rfl) (by kernel_rfl) (fun _ _ _ h => h) (Or.inl ⟨by rfl, ?hy7⟩) (by assumption) ?_
  case hy7 => intro w hSw; (try dsimp only at hSw); go_simp; try with_reducible rfl
  simp only [Act.put, List.getElem_toArray, List.getElem_cons_zero, List.getElem_cons_succ, List.setIfInBounds_toArray, List.set_cons_zero, List.set_cons_succ]
  refine wpAnyN_take (i := 8) (v := ?v8) rfl (by kernel_rfl) (by kernel_rfl) (by kernel_rfl) (by kernel_rfl) (fun _ _ _ h => h) (Or.inl ⟨by rfl, ?hy8⟩) (by assumption) ?_
  case hy8 => intro w hSw; (try dsimp only at hSw); go_simp; try with_reducible rfl
  simp only [Act.put, List.getElem_toArray, List.getElem_cons_zero, List.getElem_cons_succ, List.setIfInBounds_toArray, List.set_cons_zero, List.set_cons_succ]
  refine wpAnyN_take (i := 9) (v := ?v9) rfl (by kernel_rfl) (by kernel_rfl) (by kernel_rfl) (by kernel_rfl) (fun _ _ _ h => h) (Or.inl ⟨by rfl, ?hy9⟩) (by assumption) ?_
  case hy9 => intro w hSw; obtain ⟨u0, u5, u6, u7, u8, u9⟩ := hSw; have e0 := u0.cell 0; have e1 := u0.cell 1; have e2 := u0.cell 2; have e3 := u0.cell 3; have e4 := u0.cell 4; simp at e0 e1 e2 e3 e4; go_simp; try with_reducible rfl
  simp only [Act.put, List.getElem_toArray, List.getElem_cons_zero, List.getElem_cons_succ, List.setIfInBounds_toArray, List.set_cons_zero, List.set_cons_succ]
  refine wpAnyN_take (i := 10) (v := ?v10) rfl (by kernel_rfl) (by kernel_rfl) (by kernel_rfl) (by kernel_rfl) (fun _ _ _ h => h) (Or.inl ⟨by rfl, ?hy10⟩) (by assumption) ?_
  case hy10 => intro w hSw; obtain ⟨u0, u5, u6, u7, u8, u9⟩ := hSw; have e0 := u5.cell 0; have e1 := u5.cell 1; have e2 := u5.cell 2; have e3 := u5.cell 3; have e4 := u5.cell 4; simp at e0 e1 e2 e3 e4; go_simp; try with_reducible rfl
  simp only [Act.put, List.getElem_toArray, List.getElem_cons_zero, List.getElem_cons_succ, List.setIfInBounds_toArray, List.set_cons_zero, List.set_cons_succ]
  refine wpAnyN_one (i := 11) (by kernel_rfl) rfl (fun K hK => ?_)
  simp only [List.getElem_toArray, List.getElem_cons_zero, List.getElem_cons_succ]
  go_simp
  refine (same12_any _ _ s _ HS4.out HO4.out).mono ?_
  rintro e w5 ⟨rfl, hb5⟩
  have hS5 : (fun w' => Blk w' w.heap.size 25 #[.slice A0 s.files.length a0, .slice A1 s.opn.length a1, .int .i64 s.inp, .int .i64 s.out, .int .i64 s.nxt] ∧ Blk w' w1.heap.size 25 #[.slice B0 s.files.length b0, .slice B1 s.opn.length b1, .int .i64 s.inp, .int .i64 s.out, .int .i64 s.nxt] ∧ Blk w' w2.heap.size 25 #[.slice C0 u.files.length c0, .slice C1 u.opn.length c1, .int .i64 u.inp, .int .i64 u.out, .int .i64 u.nxt] ∧ Blk w' (w2.heap.size + 1) 61 #[.int .i64 tn, .string tt, .bool ti, .int .i64 te] ∧ Blk w' w3.heap.size 25 #[.slice D0 u.files.length d0, .slice D1 u.opn.length d1, .int .i64 u.inp, .int .i64 u.out, .int .i64 u.nxt] ∧ Blk w' (w3.heap.size + 1) 61 #[.int .i64 tn, .string tt, .bool ti, .int .i64 te]) w5 := by
    obtain ⟨u0, u5, u6, u7, u8, u9⟩ := hS4
    exact ⟨u0.next hb5, u5.next hb5, u6.next hb5, u7.next hb5, u8.next hb5, u9.next hb5⟩
  have HB5 := Lib.hid (bNext HB4.out hb5)
  have HS5 := Lib.hid (HS4.out.next hb5)
  clear hb5 hS4
  refine hK _ _ (fun _ => hS5) ?_
  refine wpAnyN_take (i := 12) (v := ?v11) rfl (by kernel_rfl) (by kernel_rfl) (by kernel_rfl) (by kernel_rfl) (fun _ _ _ h => h) (Or.inl ⟨by rfl, ?hy11⟩) (by assumption) ?_
  case hy11 => intro w hSw; (try dsimp only at hSw); go_simp; try with_reducible rfl
  simp only [Act.put, List.getElem_toArray, List.getElem_cons_zero, List.getElem_cons_succ, List.setIfInBounds_toArray, List.set_cons_zero, List.set_cons_succ]
  refine wpAnyN_take (i := 13) (v := ?v12) rfl (by kernel_rfl) (by kernel_rfl) (by kernel_rfl) (by kernel_rfl) (fun _ _ _ h => h) (Or.inl ⟨by rfl, ?hy12⟩) (by assumption) ?_
  case hy12 => intro w hSw; (try dsimp only at hSw); go_simp; try with_reducible rfl
  simp only [Act.put, List.getElem_toArray, List.getElem_cons_zero, List.getElem_cons_succ, List.setIfInBounds_toArray, List.set_cons_zero, List.set_cons_succ]
  refine wpAnyN_take (i := 14) (v := ?v13) rfl (by kernel_rfl) (by kernel_rfl) (by kernel_rfl) (by kernel_rfl) (fun _ _ _ h => h) (Or.inl ⟨by rfl, ?hy13⟩) (by assumption) ?_
  case hy13 => intro w hSw; obtain ⟨u0, u5, u6, u7, u8, u9⟩ := hSw; have e0 := u0.cell 0; have e1 := u0.cell 1; have e2 := u0.cell 2; have e3 := u0.cell 3; have e4 := u0.cell 4; simp at e0 e1 e2 e3 e4; go_simp; try with_reducible rfl
  simp only [Act.put, List.getElem_toArray, List.getElem_cons_zero, List.getElem_cons_succ, List.setIfInBounds_toArray, List.set_cons_zero, List.set_cons_succ]
  refine wpAnyN_take (i := 16) (v := ?v14) rfl (by kernel_rfl) (by kernel_rfl) (by kernel_rfl) (by kernel_rfl) (fun _ _ _ h => h) (Or.inl ⟨by rfl, ?hy14⟩) (by assumption) ?_
  case hy14 => intro w hSw; obtain ⟨u0, u5, u6, u7, u8, u9⟩ := hSw; have e0 := u0.cell 0; have e1 := u0.cell 1; have e2 := u0.cell 2; have e3 := u0.cell 3; have e4 := u0.cell 4; simp at e0 e1 e2 e3 e4; go_simp; try with_reducible rfl
  simp only [Act.put, List.getElem_toArray, List.getElem_cons_zero, List.getElem_cons_succ, List.setIfInBounds_toArray, List.set_cons_zero, List.set_cons_succ]
  refine wpAnyN_one (i := 15) (by kernel_rfl) rfl (fun K hK => ?_)
  simp only [List.getElem_toArray, List.getElem_cons_zero, List.getElem_cons_succ]
  go_simp
  refine (valid_any _ s _ HS5.out).mono ?_
  rintro e w6 ⟨rfl, hb6⟩
  have hS6 : (fun w' => Blk w' w.heap.size 25 #[.slice A0 s.files.length a0, .slice A1 s.opn.length a1, .int .i64 s.inp, .int .i64 s.out, .int .i64 s.nxt] ∧ Blk w' w1.heap.size 25 #[.slice B0 s.files.length b0, .slice B1 s.opn.length b1, .int .i64 s.inp, .int .i64 s.out, .int .i64 s.nxt] ∧ Blk w' w2.heap.size 25 #[.slice C0 u.files.length c0, .slice C1 u.opn.length c1, .int .i64 u.inp, .int .i64 u.out, .int .i64 u.nxt] ∧ Blk w' (w2.heap.size + 1) 61 #[.int .i64 tn, .string tt, .bool ti, .int .i64 te] ∧ Blk w' w3.heap.size 25 #[.slice D0 u.files.length d0, .slice D1 u.opn.length d1, .int .i64 u.inp, .int .i64 u.out, .int .i64 u.nxt] ∧ Blk w' (w3.heap.size + 1) 61 #[.int .i64 tn, .string tt, .bool ti, .int .i64 te]) w6 := by
    obtain ⟨u0, u5, u6, u7, u8, u9⟩ := hS5
    exact ⟨u0.next hb6, u5.next hb6, u6.next hb6, u7.next hb6, u8.next hb6, u9.next hb6⟩
  have HB6 := Lib.hid (bNext HB5.out hb6)
  have HS6 := Lib.hid (HS5.out.next hb6)
  clear hb6 hS5
  refine hK _ _ (fun _ => hS6) ?_
  refine wpAnyN_one (i := 17) (by kernel_rfl) rfl (fun K hK => ?_)
  simp only [List.getElem_toArray, List.getElem_cons_zero, List.getElem_cons_succ]
  go_simp
  refine (rvalid_any _ s _ HS6.out).mono ?_
  rintro e w7 ⟨rfl, hb7⟩
  have hS7 : (fun w' => Blk w' w.heap.size 25 #[.slice A0 s.files.length a0, .slice A1 s.opn.length a1, .int .i64 s.inp, .int .i64 s.out, .int .i64 s.nxt] ∧ Blk w' w1.heap.size 25 #[.slice B0 s.files.length b0, .slice B1 s.opn.length b1, .int .i64 s.inp, .int .i64 s.out, .int .i64 s.nxt] ∧ Blk w' w2.heap.size 25 #[.slice C0 u.files.length c0, .slice C1 u.opn.length c1, .int .i64 u.inp, .int .i64 u.out, .int .i64 u.nxt] ∧ Blk w' (w2.heap.size + 1) 61 #[.int .i64 tn, .string tt, .bool ti, .int .i64 te] ∧ Blk w' w3.heap.size 25 #[.slice D0 u.files.length d0, .slice D1 u.opn.length d1, .int .i64 u.inp, .int .i64 u.out, .int .i64 u.nxt] ∧ Blk w' (w3.heap.size + 1) 61 #[.int .i64 tn, .string tt, .bool ti, .int .i64 te]) w7 := by
    obtain ⟨u0, u5, u6, u7, u8, u9⟩ := hS6
    exact ⟨u0.next hb7, u5.next hb7, u6.next hb7, u7.next hb7, u8.next hb7, u9.next hb7⟩
  have HB7 := Lib.hid (bNext HB6.out hb7)
  clear hb7 hS6
  refine hK _ _ (fun _ => hS7) ?_
  refine wpAnyN_take (i := 18) (v := ?v15) rfl (by kernel_rfl) (by kernel_rfl) (by kernel_rfl) (by kernel_rfl) (fun _ _ _ h => h) (Or.inl ⟨by rfl, ?hy15⟩) (by assumption) ?_
  case hy15 => intro w hSw; (try dsimp only at hSw); go_simp; try with_reducible rfl
  simp only [Act.put, List.getElem_toArray, List.getElem_cons_zero, List.getElem_cons_succ, List.setIfInBounds_toArray, List.set_cons_zero, List.set_cons_succ]
  refine wpAnyN_take (i := 19) (v := ?v16) rfl (by kernel_rfl) (by kernel_rfl) (by kernel_rfl) (by kernel_rfl) (fun _ _ _ h => h) (Or.inl ⟨by rfl, ?hy16⟩) (by assumption) ?_
  case hy16 => intro w hSw; (try dsimp only at hSw); go_simp; try with_reducible rfl
  simp only [Act.put, List.getElem_toArray, List.getElem_cons_zero, List.getElem_cons_succ, List.setIfInBounds_toArray, List.set_cons_zero, List.set_cons_succ]
  refine wpAnyN_take (i := 20) (v := ?v17) rfl (by kernel_rfl) (by kernel_rfl) (by kernel_rfl) (by kernel_rfl) (fun _ _ _ h => h) (Or.inl ⟨by rfl, ?hy17⟩) (by assumption) ?_
  case hy17 => intro w hSw; (try dsimp only at hSw); go_simp; try with_reducible rfl
  simp only [Act.put, List.getElem_toArray, List.getElem_cons_zero, List.getElem_cons_succ, List.setIfInBounds_toArray, List.set_cons_zero, List.set_cons_succ]
  refine wpAnyN_one (i := 21) (by kernel_rfl) rfl (fun K hK => ?_)
  simp only [List.getElem_toArray, List.getElem_cons_zero, List.getElem_cons_succ]
  go_simp
  refine (example_any _).mono ?_
  rintro e w8 ⟨rfl, hb8⟩
  have hS8 : (fun w' => Blk w' w.heap.size 25 #[.slice A0 s.files.length a0, .slice A1 s.opn.length a1, .int .i64 s.inp, .int .i64 s.out, .int .i64 s.nxt] ∧ Blk w' w1.heap.size 25 #[.slice B0 s.files.length b0, .slice B1 s.opn.length b1, .int .i64 s.inp, .int .i64 s.out, .int .i64 s.nxt] ∧ Blk w' w2.heap.size 25 #[.slice C0 u.files.length c0, .slice C1 u.opn.length c1, .int .i64 u.inp, .int .i64 u.out, .int .i64 u.nxt] ∧ Blk w' (w2.heap.size + 1) 61 #[.int .i64 tn, .string tt, .bool ti, .int .i64 te] ∧ Blk w' w3.heap.size 25 #[.slice D0 u.files.length d0, .slice D1 u.opn.length d1, .int .i64 u.inp, .int .i64 u.out, .int .i64 u.nxt] ∧ Blk w' (w3.heap.size + 1) 61 #[.int .i64 tn, .string tt, .bool ti, .int .i64 te]) w8 := by
    obtain ⟨u0, u5, u6, u7, u8, u9⟩ := hS7
    exact ⟨u0.next hb8, u5.next hb8, u6.next hb8, u7.next hb8, u8.next hb8, u9.next hb8⟩
  have HB8 := Lib.hid (bNext HB7.out hb8)
  clear hb8 hS7
  refine hK _ _ (fun _ => hS8) ?_
  refine wpAnyN_take (i := 22) (v := ?v18) rfl (by kernel_rfl) (by kernel_rfl) (by kernel_rfl) (by kernel_rfl) (fun _ _ _ h => h) (Or.inl ⟨by rfl, ?hy18⟩) (by assumption) ?_
  case hy18 => intro w hSw; (try dsimp only at hSw); go_simp; try with_reducible rfl
  simp only [Act.put, List.getElem_toArray, List.getElem_cons_zero, List.getElem_cons_succ, List.setIfInBounds_toArray, List.set_cons_zero, List.set_cons_succ]
  refine wpAnyN_take (i := 23) (v := ?v19) rfl (by kernel_rfl) (by kernel_rfl) (by kernel_rfl) (by kernel_rfl) (fun _ _ _ h => h) (Or.inl ⟨by rfl, ?hy19⟩) (by assumption) ?_
  case hy19 => intro w hSw; (try dsimp only at hSw); go_simp; try with_reducible rfl
  simp only [Act.put, List.getElem_toArray, List.getElem_cons_zero, List.getElem_cons_succ, List.setIfInBounds_toArray, List.set_cons_zero, List.set_cons_succ]
  refine wpAnyN_done (by kernel_rfl) ?_ _
  go_wp2_with fail
  go_ret
  exact ⟨rfl, HB8.out⟩
end Go.Proofs.Ytklpghpfdeojeaa
