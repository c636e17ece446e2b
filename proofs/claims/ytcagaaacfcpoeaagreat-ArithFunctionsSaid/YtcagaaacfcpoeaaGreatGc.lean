/-
  Walk: the reference evaluates an expression.
-/
import Derived.Test.YtcagaaacfcpoeaaGreatGb
import Derived.Test.YtcagaaacfcpoeaaGreatRf
namespace Go.Proofs.YtcagaaacfcpoeaaGreat
open Go.RowKit

def rvOf (r : Except Tm Int) : Int × Tm × Int := match r with | .ok n => (n, zeroT, 0) | .error b => (0, b, 8)
theorem zv72 (w : World) : (zeroValue 72).run Tryz.prog w = .ok (.agg #[.int .i64 0, .int .i64 0]) w := by kernel_rfl
theorem node_small {k n : Int} {s : ByteArray} {m : Nat} (h : nodeB k n s m = true) (h0 : k ≠ 0) (h1 : k ≠ 1) : s.size ≤ 100 ∧ m ≤ 8 := by
  unfold nodeB at h
  rw [if_neg (by simpa using h0), if_neg (by simpa using h1)] at h
  split at h
  · simp at h; omega
  · split at h
    · simp at h; omega
    · cases h
theorem kn_len {s : ByteArray} {a : List Tm} (h : knS s (a.length : Int) = true) : (∃ x, a = [x]) ∨ ∃ x y, a = [x, y] := by
  unfold knS namesS at h
  split at h
  · rename_i h1
    match a, h1 with
    | [x], _ => exact .inl ⟨x, rfl⟩
    | [], h1 => simp at h1
    | _ :: _ :: _, h1 => simp at h1; omega
  · split at h
    · rename_i h2
      match a, h2 with
      | [x, y], _ => exact .inr ⟨x, y, rfl⟩
      | [], h1 => simp at h1
      | [_], h1 => simp at h1
      | _ :: _ :: _ :: _, h1 => simp at h1; omega
    · simp at h
set_option maxRecDepth 100000 in
set_option maxHeartbeats 8000000 in
theorem value25_any (N : Nat) : ∀ (t : Tm), cnt t < N → okT t = true → rngT t = true → ∀ (A : Option Addr) (c : Nat) (w : World), ArgsAt w (Old w.heap.size) A t.args →
    Calls Tryz.prog 25 #[t.v A c] w fun e w' => EvR w (rvOf (valT t)) e w' ∧ Below w.heap.size w w' := by
  induction N with
  | zero => intro t h; omega
  | succ N ih =>
    intro t hN hok hrg A c w ha
    have HIH := Lib.hid ih
    have HOK := Lib.hid hok
    have HRG := Lib.hid hrg
    have hzv := zv72
    clear ih hok hrg
    obtain ⟨W, HW⟩ : ∃ X, Hid (X = (w.alloc (.cells #[.int .i64 t.kind, .int .i64 t.n, .string t.name, .slice A t.args.length c] 24)).alloc (.cells #[.int .i64 0, .int .i64 0, .string { data := #[] }, .slice none 0 0] 24)) := ⟨_, rfl⟩
    have hbW : Below w.heap.size w W := by rw [HW.out]; exact (bAlloc w _).alloc (by simp) _
    obtain ⟨q, hq⟩ : ∃ q, Hid (q = w.heap.size) := ⟨_, rfl⟩
    obtain ⟨r, hr⟩ : ∃ q, Hid (q = w.heap.size + 1) := ⟨_, rfl⟩
    have HZ2 := Lib.hid (show W.heap.size = w.heap.size + 2 by rw [HW.out]; simp)
    have hk0 : Blk W q 24 #[.int .i64 t.kind, .int .i64 t.n, .string t.name, .slice A t.args.length c] := by rw [HW.out, hq.out]; exact (Blk.new w _ _).alloc _
    have hk1 : Blk W r 24 #[.int .i64 0, .int .i64 0, .string { data := #[] }, .slice none 0 0] := by
      rw [HW.out, hr.out]
      have h1 := Blk.new (w.alloc (.cells #[.int .i64 t.kind, .int .i64 t.n, .string t.name, .slice A t.args.length c] 24)) 24 #[.int .i64 0, .int .i64 0, .string { data := #[] }, .slice none 0 0]
      rw [World.size_alloc] at h1
      exact h1
    have HA := Lib.hid ha
    have HB := Lib.hid hbW
    have HK := Lib.hid hk0
    have HR := Lib.hid hk1
    have hqr : q ≠ r := by rw [hq.out, hr.out]; omega
    have hqw : w.heap.size ≤ q := by rw [hq.out]; exact Nat.le_refl _
    have hrw : w.heap.size ≤ r := by rw [hr.out]; omega
    have e0 := hk0.cell 0
    have e1 := hk0.cell 1
    have e2 := hk0.cell 2
    have e3 := hk0.cell 3
    have el := hk0.lt
    simp at e0 e1 e2 e3
    clear ha hbW hk0 hk1
    go_enter Tryz.func25, Tryz.ntmps25
    go_upto_region 1 with fail
    rw [← HW.out, ← hr.out, ← hq.out]
    clear HW
    by_cases k1 : t.kind = 1
    · have HZ := Lib.hid (show rvOf (valT t) = (t.n, zeroT, 0) by rw [valT_int k1]; rfl)
      have q1 : (t.kind == 1) = true := by simpa using k1
      clear k1
      have r0 := HR.out.cell 0
      have f0 := HR.out.frozen 0
      have r1 := HR.out.cell 1
      have f1 := HR.out.frozen 1
      have r2 := HR.out.cell 2
      have f2 := HR.out.frozen 2
      have r3 := HR.out.cell 3
      have f3 := HR.out.frozen 3
      have rl := HR.out.lt
      simp at r0 r1 r2 r3
      go_wp2_with fail
      refine bodyPost_ret (v := .tuple #[.int .i64 t.n, Tm.v (zeroT) none 0, .int .i64 0]) (by simp only [results, Tryz.results25, Tm.kind, Tm.n]; go_simp; exact ⟨rfl, rfl, rfl, rfl⟩) rfl ⟨by rw [HZ.out]; exact ⟨none, 0, rfl, .nil _⟩, ?_⟩
      repeat refine Below.setCell ?_ hrw _
      exact HB.out
    · by_cases k0 : t.kind = 0
      · have HZ := Lib.hid (show rvOf (valT t) = (0, instRC, 8) by rw [valT_var k0, inst_eq]; rfl)
        have q1 : (t.kind == 1) = false := by simpa using k1
        have q0 : (t.kind == 0) = true := by simpa using k0
        clear k1 k0
        go_wp2_with fail
        refine (inst68_any W).mono ?_
        rintro e w1 ⟨⟨A1, c1, rfl, ha1⟩, hb1⟩
        have HB1 := Lib.hid (bNext HB.out hb1)
        have HR1 := Lib.hid (BlkNext HR.out hb1)
        have HA1 := Lib.hid ha1
        have hz0 := HB.out.size
        have hl0 := HR.out.lt
        clear ha1 hb1 e0 e1 e2 e3 el q1 q0
        have r0 := HR1.out.cell 0
        have f0 := HR1.out.frozen 0
        have r1 := HR1.out.cell 1
        have f1 := HR1.out.frozen 1
        have r2 := HR1.out.cell 2
        have f2 := HR1.out.frozen 2
        have r3 := HR1.out.cell 3
        have f3 := HR1.out.frozen 3
        have rl := HR1.out.lt
        simp at r0 r1 r2 r3
        go_wp2_with fail
        refine bodyPost_ret (v := .tuple #[.int .i64 0, Tm.v (instRC) A1 c1, .int .i64 8]) (by simp only [results, Tryz.results25]; go_simp) rfl ⟨by rw [HZ.out]; exact ⟨A1, c1, rfl, HA1.out.keep (fun b hb => by repeat rw [heap_setCell_other _ _ _ _ (by have := hb.1; simp; omega)]) (fun b hb => ⟨by have := hb.1; omega, by have := hb.2; simpa using this⟩)⟩, ?_⟩
        repeat refine Below.setCell ?_ hrw _
        exact HB1.out
      · have hnd := HOK.out
        rw [okT_eq] at hnd
        simp only [Bool.and_eq_true] at hnd
        have HSM := Lib.hid (node_small hnd.1 k0 k1)
        have q1 : (t.kind == 1) = false := by simpa using k1
        have q0 : (t.kind == 0) = false := by simpa using k0
        have HKK := Lib.hid (show t.kind ≠ 1 ∧ t.kind ≠ 0 from ⟨k1, k0⟩)
        clear k1 k0 hnd
        go_wp2_with fail
        refine (RKnown_any t.name (t.args.length : Int) W).mono ?_
        rintro e w1 ⟨rfl, hb1⟩
        have HB1 := Lib.hid (bNext HB.out hb1)
        have HR1 := Lib.hid (BlkNext HR.out hb1)
        have HW1 := Lib.hid hb1
        have hk1 := BlkNext HK.out hb1
        clear e0 e1 e2 e3 el hb1
        cases hkn : knS t.name (t.args.length : Int)
        · have HZ := Lib.hid (show rvOf (valT t) = (0, unkRC t.name (t.args.length : Int), 8) by rw [valT_unk HKK.out.1 HKK.out.2 hkn, unk_eq HSM.out.1 HSM.out.2]; rfl)
          have e0 := hk1.cell 0
          have e1 := hk1.cell 1
          have e2 := hk1.cell 2
          have e3 := hk1.cell 3
          have el := hk1.lt
          simp at e0 e1 e2 e3
          clear hkn hk1
          go_wp2_with fail
          refine (unk69_any t.name (t.args.length : Int) w1).mono ?_
          obtain ⟨u, hu⟩ : ∃ u, Hid (u = unkRC t.name (t.args.length : Int)) := ⟨_, rfl⟩
          rw [← hu.out]
          rw [← hu.out] at HZ
          rintro e w2 ⟨⟨A2, c2, rfl, ha2⟩, hb2⟩
          have HB2 := Lib.hid (bNext HB1.out hb2)
          have HR2 := Lib.hid (BlkNext HR1.out hb2)
          have HA2 := Lib.hid ha2
          have hz1 := HB1.out.size
          have hl1 := HR1.out.lt
          clear ha2 hb2 e0 e1 e2 e3 el q1 q0
          have r0 := HR2.out.cell 0
          have f0 := HR2.out.frozen 0
          have r1 := HR2.out.cell 1
          have f1 := HR2.out.frozen 1
          have r2 := HR2.out.cell 2
          have f2 := HR2.out.frozen 2
          have r3 := HR2.out.cell 3
          have f3 := HR2.out.frozen 3
          have rl := HR2.out.lt
          simp at r0 r1 r2 r3
          go_wp2_with fail
          refine bodyPost_ret (v := .tuple #[.int .i64 0, Tm.v (u) A2 c2, .int .i64 8]) (by simp only [results, Tryz.results25]; go_simp) rfl ⟨by rw [HZ.out]; exact ⟨A2, c2, rfl, HA2.out.keep (fun b hb => by repeat rw [heap_setCell_other _ _ _ _ (by have := hb.1; simp; omega)]) (fun b hb => ⟨by have := hb.1; omega, by have := hb.2; simpa using this⟩)⟩, ?_⟩
          repeat refine Below.setCell ?_ hrw _
          exact HB2.out
        · have HKN := Lib.hid hkn
          have HVT := Lib.hid (valT_fun HKK.out.1 HKK.out.2 hkn)
          clear hk1
          obtain ⟨k, n, s, a⟩ := t
          rcases kn_len (a := a) hkn with ⟨x, rfl⟩ | ⟨x, y, rfl⟩
          · clear hkn
            obtain ⟨ab, ao, x', Ax, cx, rfl, hF, hx, hx4, hAx⟩ := HA.out.at (i := 0) (by simp [Tm.args])
            obtain rfl : x = x' := by simpa [Tm.args] using hx
            have HFA := Lib.hid (show ∀ w', Below W.heap.size W w' → w'.cell? ⟨q, 0, none⟩ = some (.int .i64 k) ∧ w'.cell? ⟨q, 1, none⟩ = some (.int .i64 n) ∧ w'.cell? ⟨q, 2, none⟩ = some (.string s) ∧ w'.cell? ⟨q, 3, none⟩ = some (.slice (some ⟨ab, ao, none⟩) 1 c) ∧ q < w'.heap.size ∧
                w'.cell? ⟨ab, ao, none⟩ = some (.int .i64 x.kind) ∧ w'.cell? ⟨ab, ao + 1, none⟩ = some (.int .i64 x.n) ∧ w'.cell? ⟨ab, ao + 2, none⟩ = some (.string x.name) ∧ w'.cell? ⟨ab, ao + 3, none⟩ = some (.slice Ax x.args.length cx) ∧ ab < w'.heap.size from fun w' hb => by
              have h := BlkNext HK.out hb
              have e0 := h.cell 0
              have e1 := h.cell 1
              have e2 := h.cell 2
              have e3 := h.cell 3
              simp at e0 e1 e2 e3
              have hf : ab < w.heap.size := hF
              have d := hx4.below hf (bNext HB.out hb)
              unfold TmCells at d
              simp only [Nat.zero_mul, Nat.add_zero] at d
              exact ⟨e0, e1, e2, e3, h.lt, d.1, d.2.1, d.2.2.1, d.2.2.2, Nat.lt_of_lt_of_le hf (bNext HB.out hb).size⟩)
            have HAX := Lib.hid hAx
            have HXO := Lib.hid (show okT x = true ∧ rngT x = true ∧ cnt x < N by
              have h1 := okT_args HOK.out
              have h2 := rngT_args HRG.out
              simp only [Tm.args, okT.go, rngT.go, Bool.and_true] at h1 h2
              have h3 := cnt_eq (.mk k n s [x])
              simp only [Tm.args, cnt.go] at h3
              exact ⟨h1, h2, by omega⟩)
            clear hF hx hx4 hAx q0 q1
            obtain ⟨e0, e1, e2, e3, el, x0, x1, x2, x3, al⟩ := HFA.out _ HW1.out
            go_wp2_with fail
            refine wp_loop_rounds 3 ?_
            rw [rounds_succ]
            go_wp2_with fail
            obtain ⟨w2, hw2⟩ : ∃ X, Hid (X = w1.alloc (.cells #[.int .i64 0, .int .i64 0] 72)) := ⟨_, rfl⟩
            obtain ⟨gv, hgv⟩ : ∃ q, Hid (q = w1.heap.size) := ⟨_, rfl⟩
            rw [← hw2.out, ← hgv.out]
            have hb2 : Below w1.heap.size w1 w2 := by rw [hw2.out]; exact bAlloc _ _
            have HV2 := Lib.hid (show Blk w2 gv 72 #[.int .i64 0, .int .i64 0] by rw [hw2.out, hgv.out]; exact Blk.new _ _ _)
            have HW2 := Lib.hid (bNext HW1.out hb2)
            have HB2 := Lib.hid (bNext HB1.out hb2)
            have hBW : W.heap.size ≤ w2.heap.size := HW2.out.size
            clear hw2 hb2
            clear e0 e1 e2 e3 el x0 x1 x2 x3 al
            have hc := HIH.out x HXO.out.2.2 HXO.out.1 HXO.out.2.1 Ax cx w2 (ArgsNext HAX.out HB2.out)
            cases hx : valT x with
            | error b =>
              rw [hx, show rvOf (.error b) = (0, b, 8) from rfl] at hc
              have HZ := Lib.hid (show rvOf (valT (.mk k n s [x])) = (0, b, 8) by rw [HVT.out]; simp only [Tm.args, valT.go, hx]; rfl)
              have HC := Lib.hid hc
              clear hc hx
              refine HC.out.mono ?_
              rintro e v3 ⟨⟨A3, c3, rfl, ha3⟩, hb3⟩
              have hWv : Below W.heap.size W v3 := bNext HW2.out hb3
              have HX3 := Lib.hid ha3
              clear ha3 hb3
              go_upto_region 14 with fail
              obtain ⟨u3, hu3⟩ : ∃ X, Hid (X = v3.alloc (.cells #[.int .i64 b.kind, .int .i64 b.n, .string b.name, .slice A3 b.args.length c3] 24)) := ⟨_, rfl⟩
              obtain ⟨g3, hg3⟩ : ∃ q, Hid (q = v3.heap.size) := ⟨_, rfl⟩
              rw [← hu3.out, ← hg3.out]
              have hbu : Below v3.heap.size v3 u3 := by rw [hu3.out]; exact bAlloc _ _
              have hku : Blk u3 g3 24 #[.int .i64 b.kind, .int .i64 b.n, .string b.name, .slice A3 b.args.length c3] := by rw [hu3.out, hg3.out]; exact Blk.new _ _ _
              have HXu := Lib.hid (HX3.out.keep (w' := u3) (G := Btw w2.heap.size u3.heap.size) (fun b hb => hbu.block b hb.2) (fun b hb => ⟨hb.1, Nat.lt_of_lt_of_le hb.2 hbu.size⟩))
              obtain ⟨D, hD⟩ : ∃ X, Hid (X = u3.drew) := ⟨_, rfl⟩
              have hd : Below u3.heap.size u3 D := by rw [hD.out]; exact bDrewN (Below.refl _ _) 1
              have HWD := Lib.hid (bNext (bNext hWv hbu) hd)
              have HKB := Lib.hid (BlkNext hku hd)
              have HRD := Lib.hid (BlkNext HR.out HWD.out)
              have HBD := Lib.hid (bNext HB.out HWD.out)
              have HXD := Lib.hid (HXu.out.keep (w' := D) (G := Btw w2.heap.size D.heap.size) (fun b hb => hd.block b hb.2) (fun b hb => ⟨hb.1, Nat.lt_of_lt_of_le hb.2 hd.size⟩))
              refine wp_region_N (fun w' => KeptQ r D w') (fun _ => true) (by kernel_rfl) ?_
              rw [← hD.out]
              have hS0 : KeptQ r D D := KeptQ.of (Below.refl _ _)
              have hgr : g3 ≠ r := by
                have h1 := HR.out.lt
                have h2 := hWv.size
                rw [hg3.out]
                omega
              have hBr : r < w2.heap.size := Nat.lt_of_lt_of_le HR.out.lt hBW
              clear hD hd hku hbu hWv
              refine wpAnyN_take (i := 0) (v := ?v1) rfl (by kernel_rfl) (by kernel_rfl) (by kernel_rfl) (by kernel_rfl) (fun _ _ _ h => h) (Or.inl ⟨by rfl, ?hy1⟩) (by assumption) ?_
              case hy1 => intro w hSw; have h := (show Blk _ g3 24 #[.int .i64 b.kind, .int .i64 b.n, .string b.name, .slice A3 b.args.length c3] from (hSw.block g3 HKB.out.lt hgr).trans HKB.out); have z0 := h.cell 0; have z1 := h.cell 1; have z2 := h.cell 2; have z3 := h.cell 3; have zl := h.lt; simp at z0 z1 z2 z3; clear h; go_simp; try with_reducible rfl
              simp only [Act.put, List.getElem_toArray, List.getElem_cons_zero, List.setIfInBounds_toArray, List.set_cons_zero, List.set_cons_succ]
              refine wpAnyN_take (i := 1) (v := ?v2) rfl (by kernel_rfl) (by kernel_rfl) (by kernel_rfl) (by kernel_rfl) (fun _ _ _ h => h) (Or.inl ⟨by rfl, ?hy2⟩) (by assumption) ?_
              case hy2 => intro w hSw; (try dsimp only at hSw); go_simp; try with_reducible rfl
              simp only [Act.put, List.getElem_toArray, List.getElem_cons_zero, List.getElem_cons_succ, List.setIfInBounds_toArray, List.set_cons_zero, List.set_cons_succ]
              refine wpAnyN_take (i := 2) (v := ?v3) rfl (by kernel_rfl) (by kernel_rfl) (by kernel_rfl) (by kernel_rfl) (fun _ _ _ h => h) (Or.inl ⟨by rfl, ?hy3⟩) (by assumption) ?_
              case hy3 => intro w hSw; (try dsimp only at hSw); go_simp; try with_reducible rfl
              simp only [Act.put, List.getElem_toArray, List.getElem_cons_zero, List.getElem_cons_succ, List.setIfInBounds_toArray, List.set_cons_zero, List.set_cons_succ]
              have r0 := HRD.out.cell 0
              have f0 := HRD.out.frozen 0
              have r1 := HRD.out.cell 1
              have f1 := HRD.out.frozen 1
              have r2 := HRD.out.cell 2
              have f2 := HRD.out.frozen 2
              have r3 := HRD.out.cell 3
              have f3 := HRD.out.frozen 3
              have rl := HRD.out.lt
              simp at r0 r1 r2 r3
              refine wpAnyN_one (i := 3) (by kernel_rfl) rfl (fun K hK => ?_)
              simp only [List.getElem_toArray, List.getElem_cons_zero, List.getElem_cons_succ]
              go_simp
              have hs4 : KeptQ r D ((((D.setCell ⟨r, 0, none⟩ (.int .i64 b.kind)).setCell ⟨r, 1, none⟩ (.int .i64 b.n)).setCell ⟨r, 2, none⟩ (.string b.name)).setCell ⟨r, 3, none⟩ (.slice A3 b.args.length c3)) := (((hS0.setq _).setq _).setq _).setq _
              refine hK _ _ (fun _ => hs4) ?_
              (try simp only [Act.put, List.setIfInBounds_toArray, List.set_cons_zero, List.set_cons_succ])
              refine wpAnyN_take (i := 4) (v := ?v4) rfl (by kernel_rfl) (by kernel_rfl) (by kernel_rfl) (by kernel_rfl) (fun _ _ _ h => h) (Or.inl ⟨by rfl, ?hy4⟩) (by assumption) ?_
              case hy4 => intro w hSw; (try dsimp only at hSw); go_simp; try with_reducible rfl
              simp only [Act.put, List.getElem_toArray, List.getElem_cons_zero, List.getElem_cons_succ, List.setIfInBounds_toArray, List.set_cons_zero, List.set_cons_succ]
              refine wpAnyN_done (by kernel_rfl) ?_ _
              clear hS0 hs4
              go_wp2_with fail
              refine bodyPost_ret (v := .tuple #[.int .i64 0, Tm.v b A3 c3, .int .i64 8]) (by simp only [results, Tryz.results25]; go_simp) rfl ⟨by rw [HZ.out]; exact ⟨A3, c3, rfl, HXD.out.keep (fun b hb => by repeat rw [heap_setCell_other _ _ _ _ (by have := hb.1; simp; omega)]) (fun b hb => ⟨by have h1 := hb.1; have h2 := HB.out.size; omega, by have := hb.2; simpa using this⟩)⟩, ?_⟩
              repeat refine Below.setCell ?_ hrw _
              exact HBD.out
            | ok m =>
              rw [hx, show rvOf (.ok m) = (m, zeroT, 0) from rfl] at hc
              have HC := Lib.hid hc
              have HXV := Lib.hid hx
              clear hc hx
              refine HC.out.mono ?_
              rintro e v3 ⟨⟨A3, c3, rfl, -⟩, hb3⟩
              have hWv : Below W.heap.size W v3 := bNext HW2.out hb3
              have HV3 := Lib.hid ((BlkNext HV2.out hb3).alloc (.cells #[.int .i64 zeroT.kind, .int .i64 zeroT.n, .string zeroT.name, .slice A3 zeroT.args.length c3] 24))
              have HV3b := Lib.hid (BlkNext HV2.out hb3)
              have s0 := HV3.out.cell 0
              have g0 := HV3.out.frozen 0
              have sl := (BlkNext HV2.out hb3).lt
              simp at s0
              have HWv := Lib.hid hWv
              clear hWv hb3
              go_wp2_with fail
              obtain ⟨w4, hw4⟩ : ∃ X, Hid (X = (v3.setCell ⟨gv, 0, none⟩ (.int .i64 m)).alloc (.cells #[.int .i64 zeroT.kind, .int .i64 zeroT.n, .string zeroT.name, .slice A3 zeroT.args.length c3] 24)) := ⟨_, rfl⟩
              rw [← hw4.out]
              have HW4 := Lib.hid (show Below W.heap.size W w4 by
                rw [hw4.out]
                refine Below.alloc (Below.setCell HWv.out (by have := HW1.out.size; have := hgv.out; simp; omega) _) (by have := HWv.out.size; simpa using this) _)
              have HB4 := Lib.hid (bNext HB.out HW4.out)
              have HV4 := Lib.hid (show Blk w4 gv 72 #[.int .i64 m, .int .i64 0] by
                rw [hw4.out]
                have h := (HV3b.out.set_ 0 (.int .i64 m)).alloc (.cells #[.int .i64 zeroT.kind, .int .i64 zeroT.n, .string zeroT.name, .slice A3 zeroT.args.length c3] 24)
                simpa using h)
              have HMR := Lib.hid (valT_in _ x (Nat.lt_succ_self _) HXO.out.2.1 m HXV.out)
              clear hw4 s0 g0 sl
              rw [rounds_succ]
              obtain ⟨e0, e1, e2, e3, el, x0, x1, x2, x3, al⟩ := HFA.out _ HW4.out
              have s0 := HV4.out.cell 0
              have s1 := HV4.out.cell 1
              have sl := HV4.out.lt
              simp at s0 s1
              go_wp2_with fail
              refine (RUnary_any s m HMR.out w4).mono ?_
              rintro e w5 ⟨rfl, rfl⟩
              obtain ⟨p1, p2, hr⟩ := prod_ex (unS s m)
              have HPC := Lib.hid (cd_unS (x := s) m (by simpa [Tm.name, Tm.args] using HKN.out))
              rw [hr, pair]
              clear s0 s1 sl
              clear e0 e1 e2 e3 el x0 x1 x2 x3 al
              have hgo : valT.go [x] = .ok [m] := by simp only [valT.go, HXV.out]
              have hval : valT (.mk k n s [x]) = valR (p1, p2) := by rw [HVT.out]; simp only [Tm.args, hgo]; show finV s [m] = _; rw [← hr]; rfl
              have HVR := Lib.hid hval
              have HCD := Lib.hid (show Cd (p1, p2) by rw [← hr]; exact HPC.out)
              clear hgo hval
              by_cases h0 : p2 = 0
              · subst h0
                have HZ := Lib.hid (show rvOf (valT (.mk k n s [x])) = (p1, zeroT, 0) by rw [HVR.out, valR_ok rfl]; rfl)
                clear hr HPC
                obtain ⟨e0, e1, e2, e3, el, x0, x1, x2, x3, al⟩ := HFA.out _ HW4.out
                have HRE := Lib.hid (BlkNext HR.out HW4.out)
                have r0 := HRE.out.cell 0
                have f0 := HRE.out.frozen 0
                have r1 := HRE.out.cell 1
                have f1 := HRE.out.frozen 1
                have r2 := HRE.out.cell 2
                have f2 := HRE.out.frozen 2
                have r3 := HRE.out.cell 3
                have f3 := HRE.out.frozen 3
                have rl := HRE.out.lt
                simp at r0 r1 r2 r3
                go_wp2_with fail
                refine bodyPost_ret (v := .tuple #[.int .i64 p1, Tm.v zeroT none 0, .int .i64 0]) (by simp only [results, Tryz.results25, Tm.kind, Tm.n, Tm.name, Tm.args]; go_simp; exact ⟨rfl, rfl, rfl, rfl⟩) rfl ⟨by rw [HZ.out]; exact ⟨none, 0, rfl, .nil _⟩, ?_⟩
                repeat refine Below.setCell ?_ hrw _
                exact HB4.out
              · have HZ := Lib.hid (show rvOf (valT (.mk k n s [x])) = (0, failC p2, 8) by rw [HVR.out, (valR_bad HCD.out h0).1]; rfl)
                have q5 : (p2 != 0) = true := by simpa using h0
                clear hr h0 HPC
                obtain ⟨e0, e1, e2, e3, el, x0, x1, x2, x3, al⟩ := HFA.out _ HW4.out
                go_wp2_with fail
                refine (failed71_any p2 w4).mono ?_
                obtain ⟨u, hu⟩ : ∃ u, Hid (u = failC p2) := ⟨_, rfl⟩
                rw [← hu.out]
                rw [← hu.out] at HZ
                rintro e w5 ⟨⟨A5, c5, rfl, ha5⟩, hb5⟩
                have HB5 := Lib.hid (bNext HB4.out hb5)
                have HR5 := Lib.hid (BlkNext (BlkNext HR.out HW4.out) hb5)
                have HA5 := Lib.hid ha5
                have hz4 := HB4.out.size
                have hl4 := (BlkNext HR.out HW4.out).lt
                clear e0 e1 e2 e3 el x0 x1 x2 x3 al
                clear ha5 hb5 q5
                have r0 := HR5.out.cell 0
                have f0 := HR5.out.frozen 0
                have r1 := HR5.out.cell 1
                have f1 := HR5.out.frozen 1
                have r2 := HR5.out.cell 2
                have f2 := HR5.out.frozen 2
                have r3 := HR5.out.cell 3
                have f3 := HR5.out.frozen 3
                have rl := HR5.out.lt
                simp at r0 r1 r2 r3
                go_wp2_with fail
                refine bodyPost_ret (v := .tuple #[.int .i64 0, Tm.v (u) A5 c5, .int .i64 8]) (by simp only [results, Tryz.results25]; go_simp) rfl ⟨by rw [HZ.out]; exact ⟨A5, c5, rfl, HA5.out.keep (fun b hb => by repeat rw [heap_setCell_other _ _ _ _ (by have := hb.1; simp; omega)]) (fun b hb => ⟨by have := hb.1; omega, by have := hb.2; simpa using this⟩)⟩, ?_⟩
                repeat refine Below.setCell ?_ hrw _
                exact HB5.out
          · clear hkn
            obtain ⟨ab, ao, x', Ax, cx, rfl, hF, hx, hx4, hAx⟩ := HA.out.at (i := 0) (by simp [Tm.args])
            obtain rfl : x = x' := by simpa [Tm.args] using hx
            obtain ⟨ab2, ao2, y', Ay, cy, heq, -, hy, hy4, hAy⟩ := HA.out.at (i := 1) (by simp [Tm.args])
            injection heq with heq
            injection heq with hq1 hq2
            subst hq1 hq2
            obtain rfl : y = y' := by simpa [Tm.args] using hy
            have HFA := Lib.hid (show ∀ w', Below W.heap.size W w' → w'.cell? ⟨q, 0, none⟩ = some (.int .i64 k) ∧ w'.cell? ⟨q, 1, none⟩ = some (.int .i64 n) ∧ w'.cell? ⟨q, 2, none⟩ = some (.string s) ∧ w'.cell? ⟨q, 3, none⟩ = some (.slice (some ⟨ab, ao, none⟩) 2 c) ∧ q < w'.heap.size ∧
                w'.cell? ⟨ab, ao, none⟩ = some (.int .i64 x.kind) ∧ w'.cell? ⟨ab, ao + 1, none⟩ = some (.int .i64 x.n) ∧ w'.cell? ⟨ab, ao + 2, none⟩ = some (.string x.name) ∧ w'.cell? ⟨ab, ao + 3, none⟩ = some (.slice Ax x.args.length cx) ∧
                w'.cell? ⟨ab, ao + 4, none⟩ = some (.int .i64 y.kind) ∧ w'.cell? ⟨ab, ao + 4 + 1, none⟩ = some (.int .i64 y.n) ∧ w'.cell? ⟨ab, ao + 4 + 2, none⟩ = some (.string y.name) ∧ w'.cell? ⟨ab, ao + 4 + 3, none⟩ = some (.slice Ay y.args.length cy) ∧ ab < w'.heap.size from fun w' hb => by
              have h := BlkNext HK.out hb
              have e0 := h.cell 0
              have e1 := h.cell 1
              have e2 := h.cell 2
              have e3 := h.cell 3
              simp at e0 e1 e2 e3
              have hf : ab < w.heap.size := hF
              have d := hx4.below hf (bNext HB.out hb)
              have f := hy4.below hf (bNext HB.out hb)
              unfold TmCells at d f
              simp only [Nat.zero_mul, Nat.one_mul, Nat.add_zero] at d f
              exact ⟨e0, e1, e2, e3, h.lt, d.1, d.2.1, d.2.2.1, d.2.2.2, f.1, f.2.1, f.2.2.1, f.2.2.2, Nat.lt_of_lt_of_le hf (bNext HB.out hb).size⟩)
            have HAX := Lib.hid hAx
            have HAY := Lib.hid hAy
            have hxo : (okT x = true ∧ rngT x = true ∧ cnt x < N) ∧ okT y = true ∧ rngT y = true ∧ cnt y < N := by
              have h1 := okT_args HOK.out
              have h2 := rngT_args HRG.out
              simp only [Tm.args, okT.go, rngT.go, Bool.and_true, Bool.and_eq_true] at h1 h2
              have h3 := cnt_eq (.mk k n s [x, y])
              simp only [Tm.args, cnt.go] at h3
              exact ⟨⟨h1.1, h2.1, by omega⟩, h1.2, h2.2, by omega⟩
            have HXO := Lib.hid hxo.1
            have HYO := Lib.hid hxo.2
            clear hF hx hx4 hAx q0 q1 hy hy4 hAy hxo
            obtain ⟨e0, e1, e2, e3, el, x0, x1, x2, x3, y0, y1, y2, y3, al⟩ := HFA.out _ HW1.out
            go_wp2_with fail
            refine wp_loop_rounds 3 ?_
            rw [rounds_succ]
            go_wp2_with fail
            obtain ⟨w2, hw2⟩ : ∃ X, Hid (X = w1.alloc (.cells #[.int .i64 0, .int .i64 0] 72)) := ⟨_, rfl⟩
            obtain ⟨gv, hgv⟩ : ∃ q, Hid (q = w1.heap.size) := ⟨_, rfl⟩
            rw [← hw2.out, ← hgv.out]
            have hb2 : Below w1.heap.size w1 w2 := by rw [hw2.out]; exact bAlloc _ _
            have HV2 := Lib.hid (show Blk w2 gv 72 #[.int .i64 0, .int .i64 0] by rw [hw2.out, hgv.out]; exact Blk.new _ _ _)
            have HW2 := Lib.hid (bNext HW1.out hb2)
            have HB2 := Lib.hid (bNext HB1.out hb2)
            have hBW : W.heap.size ≤ w2.heap.size := HW2.out.size
            clear hw2 hb2
            clear e0 e1 e2 e3 el x0 x1 x2 x3 y0 y1 y2 y3 al
            have hc := HIH.out x HXO.out.2.2 HXO.out.1 HXO.out.2.1 Ax cx w2 (ArgsNext HAX.out HB2.out)
            cases hx : valT x with
            | error b =>
              rw [hx, show rvOf (.error b) = (0, b, 8) from rfl] at hc
              have HZ := Lib.hid (show rvOf (valT (.mk k n s [x, y])) = (0, b, 8) by rw [HVT.out]; simp only [Tm.args, valT.go, hx]; rfl)
              have HC := Lib.hid hc
              clear hc hx
              refine HC.out.mono ?_
              rintro e v3 ⟨⟨A3, c3, rfl, ha3⟩, hb3⟩
              have hWv : Below W.heap.size W v3 := bNext HW2.out hb3
              have HX3 := Lib.hid ha3
              clear ha3 hb3
              go_upto_region 14 with fail
              obtain ⟨u3, hu3⟩ : ∃ X, Hid (X = v3.alloc (.cells #[.int .i64 b.kind, .int .i64 b.n, .string b.name, .slice A3 b.args.length c3] 24)) := ⟨_, rfl⟩
              obtain ⟨g3, hg3⟩ : ∃ q, Hid (q = v3.heap.size) := ⟨_, rfl⟩
              rw [← hu3.out, ← hg3.out]
              have hbu : Below v3.heap.size v3 u3 := by rw [hu3.out]; exact bAlloc _ _
              have hku : Blk u3 g3 24 #[.int .i64 b.kind, .int .i64 b.n, .string b.name, .slice A3 b.args.length c3] := by rw [hu3.out, hg3.out]; exact Blk.new _ _ _
              have HXu := Lib.hid (HX3.out.keep (w' := u3) (G := Btw w2.heap.size u3.heap.size) (fun b hb => hbu.block b hb.2) (fun b hb => ⟨hb.1, Nat.lt_of_lt_of_le hb.2 hbu.size⟩))
              obtain ⟨D, hD⟩ : ∃ X, Hid (X = u3.drew) := ⟨_, rfl⟩
              have hd : Below u3.heap.size u3 D := by rw [hD.out]; exact bDrewN (Below.refl _ _) 1
              have HWD := Lib.hid (bNext (bNext hWv hbu) hd)
              have HKB := Lib.hid (BlkNext hku hd)
              have HRD := Lib.hid (BlkNext HR.out HWD.out)
              have HBD := Lib.hid (bNext HB.out HWD.out)
              have HXD := Lib.hid (HXu.out.keep (w' := D) (G := Btw w2.heap.size D.heap.size) (fun b hb => hd.block b hb.2) (fun b hb => ⟨hb.1, Nat.lt_of_lt_of_le hb.2 hd.size⟩))
              refine wp_region_N (fun w' => KeptQ r D w') (fun _ => true) (by kernel_rfl) ?_
              rw [← hD.out]
              have hS0 : KeptQ r D D := KeptQ.of (Below.refl _ _)
              have hgr : g3 ≠ r := by
                have h1 := HR.out.lt
                have h2 := hWv.size
                rw [hg3.out]
                omega
              have hBr : r < w2.heap.size := Nat.lt_of_lt_of_le HR.out.lt hBW
              clear hD hd hku hbu hWv
              refine wpAnyN_take (i := 0) (v := ?v5) rfl (by kernel_rfl) (by kernel_rfl) (by kernel_rfl) (by kernel_rfl) (fun _ _ _ h => h) (Or.inl ⟨by rfl, ?hy5⟩) (by assumption) ?_
              case hy5 => intro w hSw; have h := (show Blk _ g3 24 #[.int .i64 b.kind, .int .i64 b.n, .string b.name, .slice A3 b.args.length c3] from (hSw.block g3 HKB.out.lt hgr).trans HKB.out); have z0 := h.cell 0; have z1 := h.cell 1; have z2 := h.cell 2; have z3 := h.cell 3; have zl := h.lt; simp at z0 z1 z2 z3; clear h; go_simp; try with_reducible rfl
              simp only [Act.put, List.getElem_toArray, List.getElem_cons_zero, List.setIfInBounds_toArray, List.set_cons_zero, List.set_cons_succ]
              refine wpAnyN_take (i := 1) (v := ?v6) rfl (by kernel_rfl) (by kernel_rfl) (by kernel_rfl) (by kernel_rfl) (fun _ _ _ h => h) (Or.inl ⟨by rfl, ?hy6⟩) (by assumption) ?_
              case hy6 => intro w hSw; (try dsimp only at hSw); go_simp; try with_reducible rfl
              simp only [Act.put, List.getElem_toArray, List.getElem_cons_zero, List.getElem_cons_succ, List.setIfInBounds_toArray, List.set_cons_zero, List.set_cons_succ]
              refine wpAnyN_take (i := 2) (v := ?v7) rfl (by kernel_rfl) (by kernel_rfl) (by kernel_rfl) (by kernel_rfl) (fun _ _ _ h => h) (Or.inl ⟨by rfl, ?hy7⟩) (by assumption) ?_
              case hy7 => intro w hSw; (try dsimp only at hSw); go_simp; try with_reducible rfl
              simp only [Act.put, List.getElem_toArray, List.getElem_cons_zero, List.getElem_cons_succ, List.setIfInBounds_toArray, List.set_cons_zero, List.set_cons_succ]
              have r0 := HRD.out.cell 0
              have f0 := HRD.out.frozen 0
              have r1 := HRD.out.cell 1
              have f1 := HRD.out.frozen 1
              have r2 := HRD.out.cell 2
              have f2 := HRD.out.frozen 2
              have r3 := HRD.out.cell 3
              have f3 := HRD.out.frozen 3
              have rl := HRD.out.lt
              simp at r0 r1 r2 r3
              refine wpAnyN_one (i := 3) (by kernel_rfl) rfl (fun K hK => ?_)
              simp only [List.getElem_toArray, List.getElem_cons_zero, List.getElem_cons_succ]
              go_simp
              have hs4 : KeptQ r D ((((D.setCell ⟨r, 0, none⟩ (.int .i64 b.kind)).setCell ⟨r, 1, none⟩ (.int .i64 b.n)).setCell ⟨r, 2, none⟩ (.string b.name)).setCell ⟨r, 3, none⟩ (.slice A3 b.args.length c3)) := (((hS0.setq _).setq _).setq _).setq _
              refine hK _ _ (fun _ => hs4) ?_
              (try simp only [Act.put, List.setIfInBounds_toArray, List.set_cons_zero, List.set_cons_succ])
              refine wpAnyN_take (i := 4) (v := ?v8) rfl (by kernel_rfl) (by kernel_rfl) (by kernel_rfl) (by kernel_rfl) (fun _ _ _ h => h) (Or.inl ⟨by rfl, ?hy8⟩) (by assumption) ?_
              case hy8 => intro w hSw; (try dsimp only at hSw); go_simp; try with_reducible rfl
              simp only [Act.put, List.getElem_toArray, List.getElem_cons_zero, List.getElem_cons_succ, List.setIfInBounds_toArray, List.set_cons_zero, List.set_cons_succ]
              refine wpAnyN_done (by kernel_rfl) ?_ _
              clear hS0 hs4
              go_wp2_with fail
              refine bodyPost_ret (v := .tuple #[.int .i64 0, Tm.v b A3 c3, .int .i64 8]) (by simp only [results, Tryz.results25]; go_simp) rfl ⟨by rw [HZ.out]; exact ⟨A3, c3, rfl, HXD.out.keep (fun b hb => by repeat rw [heap_setCell_other _ _ _ _ (by have := hb.1; simp; omega)]) (fun b hb => ⟨by have h1 := hb.1; have h2 := HB.out.size; omega, by have := hb.2; simpa using this⟩)⟩, ?_⟩
              repeat refine Below.setCell ?_ hrw _
              exact HBD.out
            | ok m =>
              rw [hx, show rvOf (.ok m) = (m, zeroT, 0) from rfl] at hc
              have HC := Lib.hid hc
              have HXV := Lib.hid hx
              clear hc hx
              refine HC.out.mono ?_
              rintro e v3 ⟨⟨A3, c3, rfl, -⟩, hb3⟩
              have hWv : Below W.heap.size W v3 := bNext HW2.out hb3
              have HV3 := Lib.hid ((BlkNext HV2.out hb3).alloc (.cells #[.int .i64 zeroT.kind, .int .i64 zeroT.n, .string zeroT.name, .slice A3 zeroT.args.length c3] 24))
              have HV3b := Lib.hid (BlkNext HV2.out hb3)
              have s0 := HV3.out.cell 0
              have g0 := HV3.out.frozen 0
              have sl := (BlkNext HV2.out hb3).lt
              simp at s0
              have HWv := Lib.hid hWv
              clear hWv hb3 hBW
              go_wp2_with fail
              obtain ⟨w4, hw4⟩ : ∃ X, Hid (X = (v3.setCell ⟨gv, 0, none⟩ (.int .i64 m)).alloc (.cells #[.int .i64 zeroT.kind, .int .i64 zeroT.n, .string zeroT.name, .slice A3 zeroT.args.length c3] 24)) := ⟨_, rfl⟩
              rw [← hw4.out]
              have HW4 := Lib.hid (show Below W.heap.size W w4 by
                rw [hw4.out]
                refine Below.alloc (Below.setCell HWv.out (by have := HW1.out.size; have := hgv.out; simp; omega) _) (by have := HWv.out.size; simpa using this) _)
              have HB4 := Lib.hid (bNext HB.out HW4.out)
              have HV4 := Lib.hid (show Blk w4 gv 72 #[.int .i64 m, .int .i64 0] by
                rw [hw4.out]
                have h := (HV3b.out.set_ 0 (.int .i64 m)).alloc (.cells #[.int .i64 zeroT.kind, .int .i64 zeroT.n, .string zeroT.name, .slice A3 zeroT.args.length c3] 24)
                simpa using h)
              have HMR := Lib.hid (valT_in _ x (Nat.lt_succ_self _) HXO.out.2.1 m HXV.out)
              clear hw4 s0 g0 sl
              have hBW : W.heap.size ≤ w4.heap.size := HW4.out.size
              rw [rounds_succ]
              obtain ⟨e0, e1, e2, e3, el, x0, x1, x2, x3, y0, y1, y2, y3, al⟩ := HFA.out _ HW4.out
              go_wp2_with fail
              clear e0 e1 e2 e3 el x0 x1 x2 x3 y0 y1 y2 y3 al
              have hc := HIH.out y HYO.out.2.2 HYO.out.1 HYO.out.2.1 Ay cy w4 (ArgsNext HAY.out HB4.out)
              cases hy : valT y with
              | error b =>
                rw [hy, show rvOf (.error b) = (0, b, 8) from rfl] at hc
                have HZ := Lib.hid (show rvOf (valT (.mk k n s [x, y])) = (0, b, 8) by rw [HVT.out]; simp only [Tm.args, valT.go, HXV.out, hy]; rfl)
                have HC := Lib.hid hc
                clear hc hy
                refine HC.out.mono ?_
                rintro e v5 ⟨⟨A5, c5, rfl, ha5⟩, hb5⟩
                have hWv : Below W.heap.size W v5 := bNext HW4.out hb5
                have HX5 := Lib.hid ha5
                clear ha5 hb5
                go_upto_region 14 with fail
                obtain ⟨u5, hu5⟩ : ∃ X, Hid (X = v5.alloc (.cells #[.int .i64 b.kind, .int .i64 b.n, .string b.name, .slice A5 b.args.length c5] 24)) := ⟨_, rfl⟩
                obtain ⟨g5, hg5⟩ : ∃ q, Hid (q = v5.heap.size) := ⟨_, rfl⟩
                rw [← hu5.out, ← hg5.out]
                have hbu : Below v5.heap.size v5 u5 := by rw [hu5.out]; exact bAlloc _ _
                have hku : Blk u5 g5 24 #[.int .i64 b.kind, .int .i64 b.n, .string b.name, .slice A5 b.args.length c5] := by rw [hu5.out, hg5.out]; exact Blk.new _ _ _
                have HXu := Lib.hid (HX5.out.keep (w' := u5) (G := Btw w4.heap.size u5.heap.size) (fun b hb => hbu.block b hb.2) (fun b hb => ⟨hb.1, Nat.lt_of_lt_of_le hb.2 hbu.size⟩))
                obtain ⟨D, hD⟩ : ∃ X, Hid (X = u5.drew) := ⟨_, rfl⟩
                have hd : Below u5.heap.size u5 D := by rw [hD.out]; exact bDrewN (Below.refl _ _) 1
                have HWD := Lib.hid (bNext (bNext hWv hbu) hd)
                have HKB := Lib.hid (BlkNext hku hd)
                have HRD := Lib.hid (BlkNext HR.out HWD.out)
                have HBD := Lib.hid (bNext HB.out HWD.out)
                have HXD := Lib.hid (HXu.out.keep (w' := D) (G := Btw w4.heap.size D.heap.size) (fun b hb => hd.block b hb.2) (fun b hb => ⟨hb.1, Nat.lt_of_lt_of_le hb.2 hd.size⟩))
                refine wp_region_N (fun w' => KeptQ r D w') (fun _ => true) (by kernel_rfl) ?_
                rw [← hD.out]
                have hS0 : KeptQ r D D := KeptQ.of (Below.refl _ _)
                have hgr : g5 ≠ r := by
                  have h1 := HR.out.lt
                  have h2 := hWv.size
                  rw [hg5.out]
                  omega
                have hBr : r < w4.heap.size := Nat.lt_of_lt_of_le HR.out.lt hBW
                clear hD hd hku hbu hWv
                refine wpAnyN_take (i := 0) (v := ?v9) rfl (by kernel_rfl) (by kernel_rfl) (by kernel_rfl) (by kernel_rfl) (fun _ _ _ h => h) (Or.inl ⟨by rfl, ?hy9⟩) (by assumption) ?_
                case hy9 => intro w hSw; have h := (show Blk _ g5 24 #[.int .i64 b.kind, .int .i64 b.n, .string b.name, .slice A5 b.args.length c5] from (hSw.block g5 HKB.out.lt hgr).trans HKB.out); have z0 := h.cell 0; have z1 := h.cell 1; have z2 := h.cell 2; have z3 := h.cell 3; have zl := h.lt; simp at z0 z1 z2 z3; clear h; go_simp; try with_reducible rfl
                simp only [Act.put, List.getElem_toArray, List.getElem_cons_zero, List.setIfInBounds_toArray, List.set_cons_zero, List.set_cons_succ]
                refine wpAnyN_take (i := 1) (v := ?v10) rfl (by kernel_rfl) (by kernel_rfl) (by kernel_rfl) (by kernel_rfl) (fun _ _ _ h => h) (Or.inl ⟨by rfl, ?hy10⟩) (by assumption) ?_
                case hy10 => intro w hSw; (try dsimp only at hSw); go_simp; try with_reducible rfl
                simp only [Act.put, List.getElem_toArray, List.getElem_cons_zero, List.getElem_cons_succ, List.setIfInBounds_toArray, List.set_cons_zero, List.set_cons_succ]
                refine wpAnyN_take (i := 2) (v := ?v11) rfl (by kernel_rfl) (by kernel_rfl) (by kernel_rfl) (by kernel_rfl) (fun _ _ _ h => h) (Or.inl ⟨by rfl, ?hy11⟩) (by assumption) ?_
                case hy11 => intro w hSw; (try dsimp only at hSw); go_simp; try with_reducible rfl
                simp only [Act.put, List.getElem_toArray, List.getElem_cons_zero, List.getElem_cons_succ, List.setIfInBounds_toArray, List.set_cons_zero, List.set_cons_succ]
                have r0 := HRD.out.cell 0
                have f0 := HRD.out.frozen 0
                have r1 := HRD.out.cell 1
                have f1 := HRD.out.frozen 1
                have r2 := HRD.out.cell 2
                have f2 := HRD.out.frozen 2
                have r3 := HRD.out.cell 3
                have f3 := HRD.out.frozen 3
                have rl := HRD.out.lt
                simp at r0 r1 r2 r3
                refine wpAnyN_one (i := 3) (by kernel_rfl) rfl (fun K hK => ?_)
                simp only [List.getElem_toArray, List.getElem_cons_zero, List.getElem_cons_succ]
                go_simp
                have hs4 : KeptQ r D ((((D.setCell ⟨r, 0, none⟩ (.int .i64 b.kind)).setCell ⟨r, 1, none⟩ (.int .i64 b.n)).setCell ⟨r, 2, none⟩ (.string b.name)).setCell ⟨r, 3, none⟩ (.slice A5 b.args.length c5)) := (((hS0.setq _).setq _).setq _).setq _
                refine hK _ _ (fun _ => hs4) ?_
                (try simp only [Act.put, List.setIfInBounds_toArray, List.set_cons_zero, List.set_cons_succ])
                refine wpAnyN_take (i := 4) (v := ?v12) rfl (by kernel_rfl) (by kernel_rfl) (by kernel_rfl) (by kernel_rfl) (fun _ _ _ h => h) (Or.inl ⟨by rfl, ?hy12⟩) (by assumption) ?_
                case hy12 => intro w hSw; (try dsimp only at hSw); go_simp; try with_reducible rfl
                simp only [Act.put, List.getElem_toArray, List.getElem_cons_zero, List.getElem_cons_succ, List.setIfInBounds_toArray, List.set_cons_zero, List.set_cons_succ]
                refine wpAnyN_done (by kernel_rfl) ?_ _
                clear hS0 hs4
                go_wp2_with fail
                refine bodyPost_ret (v := .tuple #[.int .i64 0, Tm.v b A5 c5, .int .i64 8]) (by simp only [results, Tryz.results25]; go_simp) rfl ⟨by rw [HZ.out]; exact ⟨A5, c5, rfl, HXD.out.keep (fun b hb => by repeat rw [heap_setCell_other _ _ _ _ (by have := hb.1; simp; omega)]) (fun b hb => ⟨by have h1 := hb.1; have h2 := HB.out.size; omega, by have := hb.2; simpa using this⟩)⟩, ?_⟩
                repeat refine Below.setCell ?_ hrw _
                exact HBD.out
              | ok l =>
                rw [hy, show rvOf (.ok l) = (l, zeroT, 0) from rfl] at hc
                have HC := Lib.hid hc
                have HYV := Lib.hid hy
                clear hc hy
                refine HC.out.mono ?_
                rintro e v5 ⟨⟨A5, c5, rfl, -⟩, hb5⟩
                have hWv : Below W.heap.size W v5 := bNext HW4.out hb5
                have HV5 := Lib.hid ((BlkNext HV4.out hb5).alloc (.cells #[.int .i64 zeroT.kind, .int .i64 zeroT.n, .string zeroT.name, .slice A5 zeroT.args.length c5] 24))
                have HV5b := Lib.hid (BlkNext HV4.out hb5)
                have s1 := HV5.out.cell 1
                have g1 := HV5.out.frozen 1
                have sl := (BlkNext HV4.out hb5).lt
                simp at s1
                have HWv5 := Lib.hid hWv
                clear hWv hb5 hBW
                go_wp2_with fail
                obtain ⟨w6, hw6⟩ : ∃ X, Hid (X = (v5.setCell ⟨gv, 1, none⟩ (.int .i64 l)).alloc (.cells #[.int .i64 zeroT.kind, .int .i64 zeroT.n, .string zeroT.name, .slice A5 zeroT.args.length c5] 24)) := ⟨_, rfl⟩
                rw [← hw6.out]
                have HW6 := Lib.hid (show Below W.heap.size W w6 by
                  rw [hw6.out]
                  refine Below.alloc (Below.setCell HWv5.out (by have := HW1.out.size; have := hgv.out; simp; omega) _) (by have := HWv5.out.size; simpa using this) _)
                have HB6 := Lib.hid (bNext HB.out HW6.out)
                have HV6 := Lib.hid (show Blk w6 gv 72 #[.int .i64 m, .int .i64 l] by
                  rw [hw6.out]
                  have h := (HV5b.out.set_ 1 (.int .i64 l)).alloc (.cells #[.int .i64 zeroT.kind, .int .i64 zeroT.n, .string zeroT.name, .slice A5 zeroT.args.length c5] 24)
                  simpa using h)
                have HLR := Lib.hid (valT_in _ y (Nat.lt_succ_self _) HYO.out.2.1 l HYV.out)
                clear hw6 s1 g1 sl
                rw [rounds_succ]
                obtain ⟨e0, e1, e2, e3, el, x0, x1, x2, x3, y0, y1, y2, y3, al⟩ := HFA.out _ HW6.out
                have s0 := HV6.out.cell 0
                have s1 := HV6.out.cell 1
                have sl := HV6.out.lt
                simp at s0 s1
                go_wp2_with fail
                refine (RUnary_any s m HMR.out w6).mono ?_
                rintro e w7 ⟨rfl, rfl⟩
                obtain ⟨u1, u2, hu⟩ := prod_ex (unS s m)
                rw [hu, pair]
                clear hu
                go_wp2_with fail
                refine (RBinary_any s m l HMR.out HLR.out w6).mono ?_
                rintro e w7 ⟨rfl, rfl⟩
                obtain ⟨p1, p2, hr⟩ := prod_ex (binS s m l)
                have HPC := Lib.hid (cd_binS (x := s) m l (by simpa [Tm.name, Tm.args] using HKN.out))
                rw [hr, pair]
                clear s0 s1 sl
                clear e0 e1 e2 e3 el x0 x1 x2 x3 y0 y1 y2 y3 al
                have hgo : valT.go [x, y] = .ok [m, l] := by simp only [valT.go, HXV.out, HYV.out]
                have hval : valT (.mk k n s [x, y]) = valR (p1, p2) := by rw [HVT.out]; simp only [Tm.args, hgo]; show finV s [m, l] = _; rw [← hr]; rfl
                have HVR := Lib.hid hval
                have HCD := Lib.hid (show Cd (p1, p2) by rw [← hr]; exact HPC.out)
                have HW4 := HW6
                clear hgo hval
                by_cases h0 : p2 = 0
                · subst h0
                  have HZ := Lib.hid (show rvOf (valT (.mk k n s [x, y])) = (p1, zeroT, 0) by rw [HVR.out, valR_ok rfl]; rfl)
                  clear hr HPC
                  obtain ⟨e0, e1, e2, e3, el, x0, x1, x2, x3, y0, y1, y2, y3, al⟩ := HFA.out _ HW4.out
                  have HRE := Lib.hid (BlkNext HR.out HW4.out)
                  have r0 := HRE.out.cell 0
                  have f0 := HRE.out.frozen 0
                  have r1 := HRE.out.cell 1
                  have f1 := HRE.out.frozen 1
                  have r2 := HRE.out.cell 2
                  have f2 := HRE.out.frozen 2
                  have r3 := HRE.out.cell 3
                  have f3 := HRE.out.frozen 3
                  have rl := HRE.out.lt
                  simp at r0 r1 r2 r3
                  go_wp2_with fail
                  refine bodyPost_ret (v := .tuple #[.int .i64 p1, Tm.v zeroT none 0, .int .i64 0]) (by simp only [results, Tryz.results25, Tm.kind, Tm.n, Tm.name, Tm.args]; go_simp; exact ⟨rfl, rfl, rfl, rfl⟩) rfl ⟨by rw [HZ.out]; exact ⟨none, 0, rfl, .nil _⟩, ?_⟩
                  repeat refine Below.setCell ?_ hrw _
                  exact HB6.out
                · have HZ := Lib.hid (show rvOf (valT (.mk k n s [x, y])) = (0, failC p2, 8) by rw [HVR.out, (valR_bad HCD.out h0).1]; rfl)
                  have q5 : (p2 != 0) = true := by simpa using h0
                  clear hr h0 HPC
                  obtain ⟨e0, e1, e2, e3, el, x0, x1, x2, x3, y0, y1, y2, y3, al⟩ := HFA.out _ HW4.out
                  go_wp2_with fail
                  refine (failed71_any p2 w6).mono ?_
                  obtain ⟨u, hu⟩ : ∃ u, Hid (u = failC p2) := ⟨_, rfl⟩
                  rw [← hu.out]
                  rw [← hu.out] at HZ
                  rintro e w5 ⟨⟨A5, c5, rfl, ha5⟩, hb5⟩
                  have HB5 := Lib.hid (bNext HB6.out hb5)
                  have HR5 := Lib.hid (BlkNext (BlkNext HR.out HW4.out) hb5)
                  have HA5 := Lib.hid ha5
                  have hz4 := HB6.out.size
                  have hl4 := (BlkNext HR.out HW4.out).lt
                  clear e0 e1 e2 e3 el x0 x1 x2 x3 y0 y1 y2 y3 al
                  clear ha5 hb5 q5
                  have r0 := HR5.out.cell 0
                  have f0 := HR5.out.frozen 0
                  have r1 := HR5.out.cell 1
                  have f1 := HR5.out.frozen 1
                  have r2 := HR5.out.cell 2
                  have f2 := HR5.out.frozen 2
                  have r3 := HR5.out.cell 3
                  have f3 := HR5.out.frozen 3
                  have rl := HR5.out.lt
                  simp at r0 r1 r2 r3
                  go_wp2_with fail
                  refine bodyPost_ret (v := .tuple #[.int .i64 0, Tm.v (u) A5 c5, .int .i64 8]) (by simp only [results, Tryz.results25]; go_simp) rfl ⟨by rw [HZ.out]; exact ⟨A5, c5, rfl, HA5.out.keep (fun b hb => by repeat rw [heap_setCell_other _ _ _ _ (by have := hb.1; simp; omega)]) (fun b hb => ⟨by have := hb.1; omega, by have := hb.2; simpa using this⟩)⟩, ?_⟩
                  repeat refine Below.setCell ?_ hrw _
                  exact HB5.out
end Go.Proofs.YtcagaaacfcpoeaaGreat
