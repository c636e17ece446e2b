/-
  The law of StreamsCloses.
-/
import Derived.Test.YtklpghpfdeojeaaCa
import Derived.Test.YtklpghpfdeojeaaWa
import Derived.Test.YtklpghpfdeojeaaUd
import Derived.Deep.Cut
namespace Go.Proofs.Ytklpghpfdeojeaa
open Go.RowKit

set_option maxHeartbeats 1000000 in
theorem g_neq (a c d f : Int) (b e : ByteArray) (p : Bool) (w : World) :
    (binOp .neq 52 (.agg #[.int .i64 a, .string b, .int .i64 c, .int .i64 d, .string e, .int .i64 f, .bool p]) (.agg #[.int .i64 a, .string b, .int .i64 c, .int .i64 d, .string e, .int .i64 f, .bool p])).run Try.prog w = .ok (.bool false) w := by
  go_simp
  try simp
theorem bnd {s : Sm} (h : validB s = true) : s.files.length ≤ 4398046511104 ∧ s.opn.length ≤ 1954687338268 := by
  obtain ⟨h1, h2, -⟩ := valid_head h
  exact ⟨by omega, by omega⟩

set_option maxHeartbeats 8000000 in
set_option maxRecDepth 100000 in
theorem law_closes (v : Value) (s : Sm) (name : ByteArray) (mode : Int) (al : ByteArray) (eof : Int) (w : World) (hs : SmAt w w.heap.size v s) (_ : name.size ≤ maxLen) (_ : -9223372036854775808 ≤ mode ∧ mode ≤ 9223372036854775807) (_ : al.size ≤ maxLen) (_ : -9223372036854775808 ≤ eof ∧ eof ≤ 9223372036854775807) :
    Calls Try.prog 6 #[v, .string name, .int .i64 mode, .string al, .int .i64 eof] w fun e w' => e = .returned (.bool true) ∧ Below w.heap.size w w' := by
  obtain ⟨A0, a0, A1, a1, hv, -, -, hoa⟩ := id hs
  obtain rfl : v = .agg #[.slice A0 s.files.length a0, .slice A1 s.opn.length a1, .int .i64 s.inp, .int .i64 s.out, .int .i64 s.nxt] := hv
  obtain ⟨W0, HW0⟩ : ∃ X, Hid (X = w.alloc (.cells #[.slice A0 s.files.length a0, .slice A1 s.opn.length a1, .int .i64 s.inp, .int .i64 s.out, .int .i64 s.nxt] 25)) := ⟨_, rfl⟩
  have hbq : Below w.heap.size w W0 := by rw [HW0.out]; exact bAlloc _ _
  have HK0 := Lib.hid (show Blk W0 w.heap.size 25 #[.slice A0 s.files.length a0, .slice A1 s.opn.length a1, .int .i64 s.inp, .int .i64 s.out, .int .i64 s.nxt] by rw [HW0.out]; exact Blk.new _ _ _)
  have HA := Lib.hid (hs.next hbq)
  have HOA := Lib.hid (hoa.next hbq)
  have HB := Lib.hid hbq
  clear hs hbq hoa
  obtain ⟨t, ht⟩ : ∃ t, Hid (openS s name mode al eof = t) := ⟨_, rfl⟩
  go_enter Try.func6, Try.ntmps6
  go_upto_region 1 with fail
  rw [← HW0.out]
  clear HW0
  have z0 := HK0.out.cell 0
  have z1 := HK0.out.cell 1
  have z2 := HK0.out.cell 2
  have z3 := HK0.out.cell 3
  have z4 := HK0.out.cell 4
  simp at z0 z1 z2 z3 z4
  go_wp2_with fail
  rcases openV_cases s name mode al eof with ⟨er, hop, hne⟩ | hop
  · have HOP := Lib.hid hop
    clear hop
    have hz : validB zS = true ∨ True := .inr trivial
    clear hz
    refine (open_any _ s name mode al eof _ HA.out).mono ?_
    rintro e w1 ⟨⟨v', rfl, ho⟩, hbq⟩
    rw [HOP.out] at ho ⊢
    simp only [sm2, in2, errOf] at ho ⊢
    have hsm := OwnS.read ho (Nat.zero_le _) (Nat.zero_le _)
    obtain ⟨E0, e0, E1, e1, hv, -, -, hop'⟩ := id hsm
    obtain rfl : v' = .agg #[.slice E0 zS.files.length e0, .slice E1 zS.opn.length e1, .int .i64 zS.inp, .int .i64 zS.out, .int .i64 zS.nxt] := hv
    replace HA := Lib.hid (HA.out.next hbq)
    replace HK0 := Lib.hid (HK0.out.next hbq)
    replace HOA := Lib.hid (HOA.out.next hbq)
    replace HB := Lib.hid (bNext HB.out hbq)
    have HE := Lib.hid hsm
    clear ho hsm hbq hop'
    clear z0 z1 z2 z3 z4
    go_wp2_with fail
    refine (example_any _).mono ?_
    rintro e wx ⟨rfl, hbx⟩
    replace HB := Lib.hid (bNext (HB.out.alloc HB.out.size _) hbx)
    clear hbx
    go_wp2_with fail
    go_ret
    exact ⟨rfl, HB.out⟩
  · obtain ⟨u, ⟨cf, co, ci, cu, cn⟩, hu, hc, hc2, htx, hco, hcn, hm1, hm2, hvt, hvu, hvc⟩ := closes_plain hop
    have hal := openV_ok hop
    have hn2 := (valid_head hal.1).2.2.1
    have hn3 := (valid_head hal.1).2.2.2.1
    have hln := (bnd hal.1).2
    rw [ht.out] at hop hu hvt
    obtain rfl : co = s.opn := hco
    obtain rfl : cn = s.nxt + 1 := hcn
    have EOP := Lib.hid hop
    have EU := Lib.hid hu
    have EC := Lib.hid hc
    have EC2 := Lib.hid hc2
    have ETX := Lib.hid htx
    have EM1 := Lib.hid hm1
    have EM2 := Lib.hid hm2
    have EVT := Lib.hid hvt
    have EVU := Lib.hid hvu
    have EVC := Lib.hid hvc
    clear hop hu hc hc2 htx hm1 hm2 hvt hvu hvc hal
    refine (open_any _ s name mode al eof _ HA.out).mono ?_
    rintro e w1 ⟨⟨v', rfl, ho⟩, hbq⟩
    rw [EOP.out] at ho ⊢
    simp only [sm2, in2, errOf] at ho ⊢
    have hsm := OwnS.read ho (bnd EVT.out).1 (bnd EVT.out).2
    obtain ⟨T0, t0, T1, t1, hv, -, -, hop'⟩ := id hsm
    obtain rfl : v' = .agg #[.slice T0 t.files.length t0, .slice T1 t.opn.length t1, .int .i64 t.inp, .int .i64 t.out, .int .i64 t.nxt] := hv
    replace HA := Lib.hid (HA.out.next hbq)
    replace HK0 := Lib.hid (HK0.out.next hbq)
    replace HOA := Lib.hid (HOA.out.next hbq)
    replace HB := Lib.hid (bNext HB.out hbq)
    have HT := Lib.hid hsm
    clear ho hsm hbq hop'
    clear z0 z1 z2 z3 z4
    obtain ⟨W2, HW⟩ : ∃ X, Hid (X = w1.alloc (.cells #[.slice T0 t.files.length t0, .slice T1 t.opn.length t1, .int .i64 t.inp, .int .i64 t.out, .int .i64 t.nxt] 25)) := ⟨_, rfl⟩
    have hbq : Below w1.heap.size w1 W2 := by rw [HW.out]; exact bAlloc _ _
    have kn : Blk W2 w1.heap.size 25 #[.slice T0 t.files.length t0, .slice T1 t.opn.length t1, .int .i64 t.inp, .int .i64 t.out, .int .i64 t.nxt] := by rw [HW.out]; exact Blk.new _ _ _
    replace HA := Lib.hid (HA.out.next hbq)
    replace HK0 := Lib.hid (HK0.out.next hbq)
    replace HOA := Lib.hid (HOA.out.next hbq)
    replace HT := Lib.hid (HT.out.next hbq)
    replace HB := Lib.hid (bNext HB.out hbq)
    have HK1 := Lib.hid kn
    clear hbq kn
    go_upto_region 4 with fail
    rw [← HW.out]
    clear HW
    have z0 := HK1.out.cell 0
    have z1 := HK1.out.cell 1
    have z2 := HK1.out.cell 2
    have z3 := HK1.out.cell 3
    have z4 := HK1.out.cell 4
    simp at z0 z1 z2 z3 z4
    go_wp2_with fail
    refine (use_any _ t s.nxt _ HT.out).mono ?_
    rintro e w3 ⟨⟨v', rfl, ho⟩, hbq⟩
    rw [EU.out] at ho ⊢
    simp only [smOf, errOf] at ho ⊢
    have hsm := OwnS.read ho (bnd EVU.out).1 (bnd EVU.out).2
    obtain ⟨U0, u0, U1, u1, hv, -, -, hop'⟩ := id hsm
    obtain rfl : v' = .agg #[.slice U0 u.files.length u0, .slice U1 u.opn.length u1, .int .i64 u.inp, .int .i64 u.out, .int .i64 u.nxt] := hv
    replace HA := Lib.hid (HA.out.next hbq)
    replace HK0 := Lib.hid (HK0.out.next hbq)
    replace HOA := Lib.hid (HOA.out.next hbq)
    replace HT := Lib.hid (HT.out.next hbq)
    replace HK1 := Lib.hid (HK1.out.next hbq)
    replace HB := Lib.hid (bNext HB.out hbq)
    have HU := Lib.hid hsm
    clear ho hsm hbq hop'
    clear z0 z1 z2 z3 z4
    obtain ⟨W4, HW⟩ : ∃ X, Hid (X = w3.alloc (.cells #[.slice U0 u.files.length u0, .slice U1 u.opn.length u1, .int .i64 u.inp, .int .i64 u.out, .int .i64 u.nxt] 25)) := ⟨_, rfl⟩
    have hbq : Below w3.heap.size w3 W4 := by rw [HW.out]; exact bAlloc _ _
    have kn : Blk W4 w3.heap.size 25 #[.slice U0 u.files.length u0, .slice U1 u.opn.length u1, .int .i64 u.inp, .int .i64 u.out, .int .i64 u.nxt] := by rw [HW.out]; exact Blk.new _ _ _
    replace HA := Lib.hid (HA.out.next hbq)
    replace HK0 := Lib.hid (HK0.out.next hbq)
    replace HOA := Lib.hid (HOA.out.next hbq)
    replace HT := Lib.hid (HT.out.next hbq)
    replace HK1 := Lib.hid (HK1.out.next hbq)
    replace HU := Lib.hid (HU.out.next hbq)
    replace HB := Lib.hid (bNext HB.out hbq)
    have HK2 := Lib.hid kn
    clear hbq kn
    go_upto_region 5 with fail
    rw [← HW.out]
    clear HW
    have z0 := HK2.out.cell 0
    have z1 := HK2.out.cell 1
    have z2 := HK2.out.cell 2
    have z3 := HK2.out.cell 3
    have z4 := HK2.out.cell 4
    simp at z0 z1 z2 z3 z4
    go_wp2_with fail
    refine (close_any _ u s.nxt _ HU.out).mono ?_
    rintro e w5 ⟨⟨v', rfl, ho⟩, hbq⟩
    rw [EC.out] at ho ⊢
    simp only [smOf, errOf] at ho ⊢
    have hsm := OwnS.read ho (bnd EVC.out).1 (bnd EVC.out).2
    obtain ⟨C0, c0, C1, c1, hv, -, -, hop'⟩ := id hsm
    obtain rfl : v' = .agg #[.slice C0 cf.length c0, .slice C1 s.opn.length c1, .int .i64 ci, .int .i64 cu, .int .i64 (s.nxt + 1)] := hv
    replace HA := Lib.hid (HA.out.next hbq)
    replace HK0 := Lib.hid (HK0.out.next hbq)
    replace HOA := Lib.hid (HOA.out.next hbq)
    replace HT := Lib.hid (HT.out.next hbq)
    replace HK1 := Lib.hid (HK1.out.next hbq)
    replace HU := Lib.hid (HU.out.next hbq)
    replace HK2 := Lib.hid (HK2.out.next hbq)
    replace HB := Lib.hid (bNext HB.out hbq)
    have HC := Lib.hid hsm
    have HOC : Hid (OpensAt w5 w5.heap.size C1 s.opn.length s.opn) := Lib.hid hop'
    clear ho hsm hbq hop'
    clear z0 z1 z2 z3 z4
    obtain ⟨W6, HW⟩ : ∃ X, Hid (X = w5.alloc (.cells #[.slice C0 cf.length c0, .slice C1 s.opn.length c1, .int .i64 ci, .int .i64 cu, .int .i64 (s.nxt + 1)] 25)) := ⟨_, rfl⟩
    have hbq : Below w5.heap.size w5 W6 := by rw [HW.out]; exact bAlloc _ _
    have kn : Blk W6 w5.heap.size 25 #[.slice C0 cf.length c0, .slice C1 s.opn.length c1, .int .i64 ci, .int .i64 cu, .int .i64 (s.nxt + 1)] := by rw [HW.out]; exact Blk.new _ _ _
    replace HA := Lib.hid (HA.out.next hbq)
    replace HK0 := Lib.hid (HK0.out.next hbq)
    replace HOA := Lib.hid (HOA.out.next hbq)
    replace HT := Lib.hid (HT.out.next hbq)
    replace HK1 := Lib.hid (HK1.out.next hbq)
    replace HU := Lib.hid (HU.out.next hbq)
    replace HK2 := Lib.hid (HK2.out.next hbq)
    replace HC := Lib.hid (HC.out.next hbq)
    replace HOC := Lib.hid (HOC.out.next hbq)
    replace HB := Lib.hid (bNext HB.out hbq)
    have HK3 := Lib.hid kn
    clear hbq kn
    go_upto_region 6 with fail
    rw [← HW.out]
    clear HW
    have z0 := HK3.out.cell 0
    have z1 := HK3.out.cell 1
    have z2 := HK3.out.cell 2
    have z3 := HK3.out.cell 3
    have z4 := HK3.out.cell 4
    simp at z0 z1 z2 z3 z4
    have y0 := HK0.out.cell 0
    have y1 := HK0.out.cell 1
    have y2 := HK0.out.cell 2
    have y3 := HK0.out.cell 3
    have y4 := HK0.out.cell 4
    simp at y0 y1 y2 y3 y4
    have x0 := HK2.out.cell 0
    have x1 := HK2.out.cell 1
    have x2 := HK2.out.cell 2
    have x3 := HK2.out.cell 3
    have x4 := HK2.out.cell 4
    simp at x0 x1 x2 x3 x4
    go_wp2_with fail
    go_loopw [18] (fun i wr => ∃ k : Nat, k ≤ s.opn.length ∧ i = .int .i64 (k : Int) ∧ Hid (Below W6.heap.size W6 wr)) (fun i _ => s.opn.length - (intOf i).toNat)
    case atStart => exact ⟨0, by omega, rfl, Lib.hid (Below.refl _ _)⟩
    case round =>
      obtain ⟨k, hk, rfl, HBr⟩ := hrel
      clear x0 x1 x2 x3 x4 y0 y1 y2 y3 y4 z0 z1 z2 z3 z4
      have HBr0 := HBr.out
      replace HA := Lib.hid (HA.out.next HBr0)
      replace HK0 := Lib.hid (HK0.out.next HBr0)
      replace HOA := Lib.hid (HOA.out.next HBr0)
      replace HT := Lib.hid (HT.out.next HBr0)
      replace HK1 := Lib.hid (HK1.out.next HBr0)
      replace HU := Lib.hid (HU.out.next HBr0)
      replace HK2 := Lib.hid (HK2.out.next HBr0)
      replace HC := Lib.hid (HC.out.next HBr0)
      replace HOC := Lib.hid (HOC.out.next HBr0)
      replace HK3 := Lib.hid (HK3.out.next HBr0)
      replace HB := Lib.hid (bNext HB.out HBr0)
      clear HBr
      by_cases hlt : k < s.opn.length
      · obtain ⟨b1, o1, x, hA1, hb1, hx, gx⟩ := HOA.out.at hlt
        subst hA1
        obtain ⟨b2, o2, y, hA2, hb2, hy, gy⟩ := HOC.out.at hlt
        subst hA2
        rw [hx] at hy
        injection hy with hy
        subst hy
        have tg := g_neq
        have y0 := HK0.out.cell 0
        have y1 := HK0.out.cell 1
        have y2 := HK0.out.cell 2
        have y3 := HK0.out.cell 3
        have y4 := HK0.out.cell 4
        simp at y0 y1 y2 y3 y4
        go_upto_region 11 with fail
        clear y0 y1 y2 y3 y4
        refine wp_region_N (fun w' => GCells w' b1 (o1 + k * 7) x ∧ GCells w' b2 (o2 + k * 7) x ∧ Blk w' w.heap.size 25 #[.slice A0 s.files.length a0, .slice (some ⟨b1, o1, none⟩) s.opn.length a1, .int .i64 s.inp, .int .i64 s.out, .int .i64 s.nxt] ∧ Blk w' w5.heap.size 25 #[.slice C0 cf.length c0, .slice (some ⟨b2, o2, none⟩) s.opn.length c1, .int .i64 ci, .int .i64 cu, .int .i64 (s.nxt + 1)]) (fun _ => true) (by kernel_rfl) ?_
        have hS0 : (fun w' => GCells w' b1 (o1 + k * 7) x ∧ GCells w' b2 (o2 + k * 7) x ∧ Blk w' w.heap.size 25 #[.slice A0 s.files.length a0, .slice (some ⟨b1, o1, none⟩) s.opn.length a1, .int .i64 s.inp, .int .i64 s.out, .int .i64 s.nxt] ∧ Blk w' w5.heap.size 25 #[.slice C0 cf.length c0, .slice (some ⟨b2, o2, none⟩) s.opn.length c1, .int .i64 ci, .int .i64 cu, .int .i64 (s.nxt + 1)]) wr.drew := ⟨gx, gy, HK0.out, HK3.out⟩
        refine wpAnyN_take (i := 0) (v := ?v1) rfl (by kernel_rfl) (by kernel_rfl) (by kernel_rfl) (by kernel_rfl) (fun _ _ _ h => h) (Or.inl ⟨by rfl, ?hy1⟩) (by assumption) ?_
        case hy1 => intro w hSw; obtain ⟨⟨q0, q1, q2, q3, q4, q5, q6⟩, ⟨r0, r1, r2, r3, r4, r5, r6⟩, u0, u3⟩ := hSw; have e1 := u0.cell 1; have i1 := u3.cell 1; simp at e1 i1; go_simp; try with_reducible rfl
        simp only [Act.put, List.getElem_toArray, List.getElem_cons_zero, List.setIfInBounds_toArray, List.set_cons_zero, List.set_cons_succ]
        refine wpAnyN_take (i := 1) (v := ?v2) rfl (by kernel_rfl) (by kernel_rfl) (by kernel_rfl) (by kernel_rfl) (fun _ _ _ h => h) (Or.inl ⟨by rfl, ?hy2⟩) (by assumption) ?_
        case hy2 => intro w hSw; obtain ⟨⟨q0, q1, q2, q3, q4, q5, q6⟩, ⟨r0, r1, r2, r3, r4, r5, r6⟩, u0, u3⟩ := hSw; have e1 := u0.cell 1; have i1 := u3.cell 1; simp at e1 i1; go_simp; try with_reducible rfl
        simp only [Act.put, List.getElem_toArray, List.getElem_cons_zero, List.getElem_cons_succ, List.setIfInBounds_toArray, List.set_cons_zero, List.set_cons_succ]
        refine wpAnyN_take (i := 2) (v := ?v3) rfl (by kernel_rfl) (by kernel_rfl) (by kernel_rfl) (by kernel_rfl) (fun _ _ _ h => h) (Or.inl ⟨by rfl, ?hy3⟩) (by assumption) ?_
        case hy3 => intro w hSw; obtain ⟨⟨q0, q1, q2, q3, q4, q5, q6⟩, ⟨r0, r1, r2, r3, r4, r5, r6⟩, u0, u3⟩ := hSw; have e1 := u0.cell 1; have i1 := u3.cell 1; simp at e1 i1; go_simp; try with_reducible rfl
        simp only [Act.put, List.getElem_toArray, List.getElem_cons_zero, List.getElem_cons_succ, List.setIfInBounds_toArray, List.set_cons_zero, List.set_cons_succ]
        refine wpAnyN_take (i := 3) (v := ?v4) rfl (by kernel_rfl) (by kernel_rfl) (by kernel_rfl) (by kernel_rfl) (fun _ _ _ h => h) (Or.inl ⟨by rfl, ?hy4⟩) (by assumption) ?_
        case hy4 => intro w hSw; obtain ⟨⟨q0, q1, q2, q3, q4, q5, q6⟩, ⟨r0, r1, r2, r3, r4, r5, r6⟩, u0, u3⟩ := hSw; have e1 := u0.cell 1; have i1 := u3.cell 1; simp at e1 i1; go_simp; try with_reducible rfl
        simp only [Act.put, List.getElem_toArray, List.getElem_cons_zero, List.getElem_cons_succ, List.setIfInBounds_toArray, List.set_cons_zero, List.set_cons_succ]
        refine wpAnyN_take (i := 4) (v := ?v5) rfl (by kernel_rfl) (by kernel_rfl) (by kernel_rfl) (by kernel_rfl) (fun _ _ _ h => h) (Or.inl ⟨by rfl, ?hy5⟩) (by assumption) ?_
        case hy5 => intro w hSw; obtain ⟨⟨q0, q1, q2, q3, q4, q5, q6⟩, ⟨r0, r1, r2, r3, r4, r5, r6⟩, u0, u3⟩ := hSw; have e1 := u0.cell 1; have i1 := u3.cell 1; simp at e1 i1; go_simp; try with_reducible rfl
        simp only [Act.put, List.getElem_toArray, List.getElem_cons_zero, List.getElem_cons_succ, List.setIfInBounds_toArray, List.set_cons_zero, List.set_cons_succ]
        refine wpAnyN_take (i := 5) (v := ?v6) rfl (by kernel_rfl) (by kernel_rfl) (by kernel_rfl) (by kernel_rfl) (fun _ _ _ h => h) (Or.inl ⟨by rfl, ?hy6⟩) (by assumption) ?_
        case hy6 => intro w hSw; obtain ⟨⟨q0, q1, q2, q3, q4, q5, q6⟩, ⟨r0, r1, r2, r3, r4, r5, r6⟩, u0, u3⟩ := hSw; have e1 := u0.cell 1; have i1 := u3.cell 1; simp at e1 i1; go_simp; try with_reducible rfl
        simp only [Act.put, List.getElem_toArray, List.getElem_cons_zero, List.getElem_cons_succ, List.setIfInBounds_toArray, List.set_cons_zero, List.set_cons_succ]
        refine wpAnyN_take (i := 6) (v := ?v7) rfl (by kernel_rfl) (by kernel_rfl) (by kernel_rfl) (by kernel_rfl) (fun _ _ _ h => h) (Or.inl ⟨by rfl, ?hy7⟩) (by assumption) ?_
        case hy7 => intro w hSw; obtain ⟨⟨q0, q1, q2, q3, q4, q5, q6⟩, ⟨r0, r1, r2, r3, r4, r5, r6⟩, u0, u3⟩ := hSw; have e1 := u0.cell 1; have i1 := u3.cell 1; simp at e1 i1; go_simp; try with_reducible rfl
        simp only [Act.put, List.getElem_toArray, List.getElem_cons_zero, List.getElem_cons_succ, List.setIfInBounds_toArray, List.set_cons_zero, List.set_cons_succ]
        refine wpAnyN_take (i := 7) (v := ?v8) rfl (by kernel_rfl) (by kernel_rfl) (by kernel_rfl) (by kernel_rfl) (fun _ _ _ h => h) (Or.inl ⟨by rfl, ?hy8⟩) (by assumption) ?_
        case hy8 => intro w hSw; obtain ⟨⟨q0, q1, q2, q3, q4, q5, q6⟩, ⟨r0, r1, r2, r3, r4, r5, r6⟩, u0, u3⟩ := hSw; have e1 := u0.cell 1; have i1 := u3.cell 1; simp at e1 i1; go_simp; try with_reducible rfl
        simp only [Act.put, List.getElem_toArray, List.getElem_cons_zero, List.getElem_cons_succ, List.setIfInBounds_toArray, List.set_cons_zero, List.set_cons_succ]
        refine wpAnyN_take (i := 8) (v := ?v9) rfl (by kernel_rfl) (by kernel_rfl) (by kernel_rfl) (by kernel_rfl) (fun _ _ _ h => h) (Or.inl ⟨by rfl, ?hy9⟩) (by assumption) ?_
        case hy9 => intro w hSw; obtain ⟨⟨q0, q1, q2, q3, q4, q5, q6⟩, ⟨r0, r1, r2, r3, r4, r5, r6⟩, u0, u3⟩ := hSw; have e1 := u0.cell 1; have i1 := u3.cell 1; simp at e1 i1; go_simp; try with_reducible rfl
        simp only [Act.put, List.getElem_toArray, List.getElem_cons_zero, List.getElem_cons_succ, List.setIfInBounds_toArray, List.set_cons_zero, List.set_cons_succ]
        refine wpAnyN_take (i := 9) (v := ?v10) rfl (by kernel_rfl) (by kernel_rfl) (by kernel_rfl) (by kernel_rfl) (fun _ _ _ h => h) (Or.inl ⟨by rfl, ?hy10⟩) (by assumption) ?_
        case hy10 => intro w hSw; obtain ⟨⟨q0, q1, q2, q3, q4, q5, q6⟩, ⟨r0, r1, r2, r3, r4, r5, r6⟩, u0, u3⟩ := hSw; have e1 := u0.cell 1; have i1 := u3.cell 1; simp at e1 i1; go_simp; try with_reducible rfl
        simp only [Act.put, List.getElem_toArray, List.getElem_cons_zero, List.getElem_cons_succ, List.setIfInBounds_toArray, List.set_cons_zero, List.set_cons_succ]
        refine wpAnyN_take (i := 10) (v := ?v11) rfl (by kernel_rfl) (by kernel_rfl) (by kernel_rfl) (by kernel_rfl) (fun _ _ _ h => h) (Or.inl ⟨by rfl, ?hy11⟩) (by assumption) ?_
        case hy11 => intro w hSw; obtain ⟨⟨q0, q1, q2, q3, q4, q5, q6⟩, ⟨r0, r1, r2, r3, r4, r5, r6⟩, u0, u3⟩ := hSw; have e1 := u0.cell 1; have i1 := u3.cell 1; simp at e1 i1; go_simp; try with_reducible rfl
        simp only [Act.put, List.getElem_toArray, List.getElem_cons_zero, List.getElem_cons_succ, List.setIfInBounds_toArray, List.set_cons_zero, List.set_cons_succ]
        refine wpAnyN_done (by kernel_rfl) ?_ _
        clear tg gx gy
        go_wp2_with fail
        exact ⟨⟨k + 1, by omega, by go_num, Lib.hid (bDrewN HBr0 1)⟩, by simp [intOf]; omega⟩
      · have z0 := HK3.out.cell 0
        have z1 := HK3.out.cell 1
        have z2 := HK3.out.cell 2
        have z3 := HK3.out.cell 3
        have z4 := HK3.out.cell 4
        simp at z0 z1 z2 z3 z4
        have y0 := HK0.out.cell 0
        have y1 := HK0.out.cell 1
        have y2 := HK0.out.cell 2
        have y3 := HK0.out.cell 3
        have y4 := HK0.out.cell 4
        simp at y0 y1 y2 y3 y4
        have x0 := HK2.out.cell 0
        have x1 := HK2.out.cell 1
        have x2 := HK2.out.cell 2
        have x3 := HK2.out.cell 3
        have x4 := HK2.out.cell 4
        simp at x0 x1 x2 x3 x4
        by_cases hm : mode = 1
        · clear HBr0
          obtain ⟨m1, m2, m3⟩ := EM1.out hm
          subst hm
          rw [m1] at x2
          subst m2 m3
          clear m1
          go_wp2_with fail
          refine (close_any _ ⟨cf, s.opn, 0, s.out, s.nxt + 1⟩ s.nxt _ HC.out).mono ?_
          rintro e w7 ⟨⟨v', rfl, ho⟩, hbq⟩
          rw [EC2.out] at ho ⊢
          simp only [smOf, errOf] at ho ⊢
          have hsm := OwnS.read ho (Nat.zero_le _) (Nat.zero_le _)
          obtain ⟨N0, n0, N1, n1, hv, -, -, hop'⟩ := id hsm
          obtain rfl : v' = .agg #[.slice N0 zS.files.length n0, .slice N1 zS.opn.length n1, .int .i64 zS.inp, .int .i64 zS.out, .int .i64 zS.nxt] := hv
          replace HA := Lib.hid (HA.out.next hbq)
          replace HK0 := Lib.hid (HK0.out.next hbq)
          replace HOA := Lib.hid (HOA.out.next hbq)
          replace HT := Lib.hid (HT.out.next hbq)
          replace HK1 := Lib.hid (HK1.out.next hbq)
          replace HU := Lib.hid (HU.out.next hbq)
          replace HK2 := Lib.hid (HK2.out.next hbq)
          replace HC := Lib.hid (HC.out.next hbq)
          replace HOC := Lib.hid (HOC.out.next hbq)
          replace HK3 := Lib.hid (HK3.out.next hbq)
          replace HB := Lib.hid (bNext HB.out hbq)
          have HN := Lib.hid hsm
          clear ho hsm hbq hop'
          clear x0 x1 x2 x3 x4 y0 y1 y2 y3 y4 z0 z1 z2 z3 z4
          have z0 := HK3.out.cell 0
          have z1 := HK3.out.cell 1
          have z2 := HK3.out.cell 2
          have z3 := HK3.out.cell 3
          have z4 := HK3.out.cell 4
          simp at z0 z1 z2 z3 z4
          obtain ⟨W8, HW⟩ : ∃ X, Hid (X = w7.alloc (.cells #[.slice N0 zS.files.length n0, .slice N1 zS.opn.length n1, .int .i64 zS.inp, .int .i64 zS.out, .int .i64 zS.nxt] 25)) := ⟨_, rfl⟩
          have hbq : Below w7.heap.size w7 W8 := by rw [HW.out]; exact bAlloc _ _
          have kn : Blk W8 w7.heap.size 25 #[.slice N0 zS.files.length n0, .slice N1 zS.opn.length n1, .int .i64 zS.inp, .int .i64 zS.out, .int .i64 zS.nxt] := by rw [HW.out]; exact Blk.new _ _ _
          replace HA := Lib.hid (HA.out.next hbq)
          replace HK0 := Lib.hid (HK0.out.next hbq)
          replace HOA := Lib.hid (HOA.out.next hbq)
          replace HT := Lib.hid (HT.out.next hbq)
          replace HK1 := Lib.hid (HK1.out.next hbq)
          replace HU := Lib.hid (HU.out.next hbq)
          replace HK2 := Lib.hid (HK2.out.next hbq)
          replace HC := Lib.hid (HC.out.next hbq)
          replace HOC := Lib.hid (HOC.out.next hbq)
          replace HK3 := Lib.hid (HK3.out.next hbq)
          replace HN := Lib.hid (HN.out.next hbq)
          replace HB := Lib.hid (bNext HB.out hbq)
          have HK4 := Lib.hid kn
          clear hbq kn
          go_upto_region 16 with fail
          rw [← HW.out]
          clear HW
          clear z0 z1 z2 z3 z4
          have z0 := HK3.out.cell 0
          have z1 := HK3.out.cell 1
          have z2 := HK3.out.cell 2
          have z3 := HK3.out.cell 3
          have z4 := HK3.out.cell 4
          simp at z0 z1 z2 z3 z4
          go_wp2_with fail
          refine (text_any _ ⟨cf, s.opn, 0, s.out, s.nxt + 1⟩ name _ HC.out).mono ?_
          rintro e w9 ⟨rfl, hbq⟩
          rw [ETX.out]
          replace HA := Lib.hid (HA.out.next hbq)
          replace HK0 := Lib.hid (HK0.out.next hbq)
          replace HOA := Lib.hid (HOA.out.next hbq)
          replace HT := Lib.hid (HT.out.next hbq)
          replace HK1 := Lib.hid (HK1.out.next hbq)
          replace HU := Lib.hid (HU.out.next hbq)
          replace HK2 := Lib.hid (HK2.out.next hbq)
          replace HC := Lib.hid (HC.out.next hbq)
          replace HOC := Lib.hid (HOC.out.next hbq)
          replace HK3 := Lib.hid (HK3.out.next hbq)
          replace HN := Lib.hid (HN.out.next hbq)
          replace HK4 := Lib.hid (HK4.out.next hbq)
          replace HB := Lib.hid (bNext HB.out hbq)
          clear hbq
          go_wp2_with fail
          refine (example_any _).mono ?_
          rintro e wx ⟨rfl, hbx⟩
          replace HB := Lib.hid (bNext HB.out hbx)
          clear hbx
          go_wp2_with fail
          go_ret
          exact ⟨rfl, HB.out⟩
        · clear HBr0
          obtain ⟨m1, m2, m3⟩ := EM2.out hm
          rw [m1] at x3
          subst m2 m3
          clear m1
          go_wp2_with fail
          refine (close_any _ ⟨cf, s.opn, s.inp, 1, s.nxt + 1⟩ s.nxt _ HC.out).mono ?_
          rintro e w7 ⟨⟨v', rfl, ho⟩, hbq⟩
          rw [EC2.out] at ho ⊢
          simp only [smOf, errOf] at ho ⊢
          have hsm := OwnS.read ho (Nat.zero_le _) (Nat.zero_le _)
          obtain ⟨N0, n0, N1, n1, hv, -, -, hop'⟩ := id hsm
          obtain rfl : v' = .agg #[.slice N0 zS.files.length n0, .slice N1 zS.opn.length n1, .int .i64 zS.inp, .int .i64 zS.out, .int .i64 zS.nxt] := hv
          replace HA := Lib.hid (HA.out.next hbq)
          replace HK0 := Lib.hid (HK0.out.next hbq)
          replace HOA := Lib.hid (HOA.out.next hbq)
          replace HT := Lib.hid (HT.out.next hbq)
          replace HK1 := Lib.hid (HK1.out.next hbq)
          replace HU := Lib.hid (HU.out.next hbq)
          replace HK2 := Lib.hid (HK2.out.next hbq)
          replace HC := Lib.hid (HC.out.next hbq)
          replace HOC := Lib.hid (HOC.out.next hbq)
          replace HK3 := Lib.hid (HK3.out.next hbq)
          replace HB := Lib.hid (bNext HB.out hbq)
          have HN := Lib.hid hsm
          clear ho hsm hbq hop'
          clear x0 x1 x2 x3 x4 y0 y1 y2 y3 y4 z0 z1 z2 z3 z4
          have z0 := HK3.out.cell 0
          have z1 := HK3.out.cell 1
          have z2 := HK3.out.cell 2
          have z3 := HK3.out.cell 3
          have z4 := HK3.out.cell 4
          simp at z0 z1 z2 z3 z4
          obtain ⟨W8, HW⟩ : ∃ X, Hid (X = w7.alloc (.cells #[.slice N0 zS.files.length n0, .slice N1 zS.opn.length n1, .int .i64 zS.inp, .int .i64 zS.out, .int .i64 zS.nxt] 25)) := ⟨_, rfl⟩
          have hbq : Below w7.heap.size w7 W8 := by rw [HW.out]; exact bAlloc _ _
          have kn : Blk W8 w7.heap.size 25 #[.slice N0 zS.files.length n0, .slice N1 zS.opn.length n1, .int .i64 zS.inp, .int .i64 zS.out, .int .i64 zS.nxt] := by rw [HW.out]; exact Blk.new _ _ _
          replace HA := Lib.hid (HA.out.next hbq)
          replace HK0 := Lib.hid (HK0.out.next hbq)
          replace HOA := Lib.hid (HOA.out.next hbq)
          replace HT := Lib.hid (HT.out.next hbq)
          replace HK1 := Lib.hid (HK1.out.next hbq)
          replace HU := Lib.hid (HU.out.next hbq)
          replace HK2 := Lib.hid (HK2.out.next hbq)
          replace HC := Lib.hid (HC.out.next hbq)
          replace HOC := Lib.hid (HOC.out.next hbq)
          replace HK3 := Lib.hid (HK3.out.next hbq)
          replace HN := Lib.hid (HN.out.next hbq)
          replace HB := Lib.hid (bNext HB.out hbq)
          have HK4 := Lib.hid kn
          clear hbq kn
          go_upto_region 16 with fail
          rw [← HW.out]
          clear HW
          clear z0 z1 z2 z3 z4
          have z0 := HK3.out.cell 0
          have z1 := HK3.out.cell 1
          have z2 := HK3.out.cell 2
          have z3 := HK3.out.cell 3
          have z4 := HK3.out.cell 4
          simp at z0 z1 z2 z3 z4
          go_wp2_with fail
          refine (text_any _ ⟨cf, s.opn, s.inp, 1, s.nxt + 1⟩ name _ HC.out).mono ?_
          rintro e w9 ⟨rfl, hbq⟩
          rw [ETX.out]
          replace HA := Lib.hid (HA.out.next hbq)
          replace HK0 := Lib.hid (HK0.out.next hbq)
          replace HOA := Lib.hid (HOA.out.next hbq)
          replace HT := Lib.hid (HT.out.next hbq)
          replace HK1 := Lib.hid (HK1.out.next hbq)
          replace HU := Lib.hid (HU.out.next hbq)
          replace HK2 := Lib.hid (HK2.out.next hbq)
          replace HC := Lib.hid (HC.out.next hbq)
          replace HOC := Lib.hid (HOC.out.next hbq)
          replace HK3 := Lib.hid (HK3.out.next hbq)
          replace HN := Lib.hid (HN.out.next hbq)
          replace HK4 := Lib.hid (HK4.out.next hbq)
          replace HB := Lib.hid (bNext HB.out hbq)
          clear hbq
          go_wp2_with fail
          refine (example_any _).mono ?_
          rintro e wx ⟨rfl, hbx⟩
          replace HB := Lib.hid (bNext HB.out hbx)
          clear hbx
          go_wp2_with fail
          go_ret
          exact ⟨rfl, HB.out⟩
end Go.Proofs.Ytklpghpfdeojeaa
