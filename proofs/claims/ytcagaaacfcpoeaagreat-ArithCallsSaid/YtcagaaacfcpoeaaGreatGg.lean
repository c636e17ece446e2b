/-
  Walk: the law of Call.
-/
import Derived.Test.YtcagaaacfcpoeaaGreatGe
import Derived.Test.YtcagaaacfcpoeaaGreatGf
namespace Go.Proofs.YtcagaaacfcpoeaaGreat
open Go.RowKit

theorem go_ball {x y b : Tm} (h : valT.go [x, y] = .error b) : validT b = true := by
  cases hx : valT x with
  | error c =>
    have h2 : valT.go [x, y] = .error c := by simp only [valT.go, hx]
    rw [h2] at h
    injection h with h
    subst h
    exact valT_ball x c hx
  | ok m =>
    cases hy : valT y with
    | error c =>
      have h2 : valT.go [x, y] = .error c := by simp only [valT.go, hx, hy]
      rw [h2] at h
      injection h with h
      subst h
      exact valT_ball y c hy
    | ok n =>
      have h2 : valT.go [x, y] = .ok [m, n] := by simp only [valT.go, hx, hy]
      rw [h2] at h
      cases h
theorem callL_ball {s : ByteArray} {x y b : Tm} (h : callL s x y = .error b) : validT b = true := by
  unfold callL at h
  split at h
  · split at h
    · rename_i hv
      injection h with h
      subst h
      exact valT_ball y _ hv
    · cases h
  · split at h
    · rename_i hv
      injection h with h
      subst h
      exact go_ball hv
    · split at h <;> cases h
theorem callL_ans {s : ByteArray} {x y : Tm} {l : List Tm} (h : callL s x y = .ok l) : l = [] ∨ ∃ z, l = [z] ∧ validT z = true := by
  unfold callL at h
  split at h
  · split at h
    · cases h
    · injection h with h
      exact .inr ⟨_, h.symm, validT_clone _⟩
  · split at h
    · cases h
    · split at h
      · injection h with h
        exact .inr ⟨_, h.symm, validT_clone _⟩
      · injection h with h
        exact .inl h.symm
theorem callV_same (t : Tm) : eqV 0 0 (callV t).2.1 (callV t).2.1 (callV t).2.2 (callV t).2.2 = true ∧ ((callV t).1 = [] ∨ ∃ z, (callV t).1 = [z] ∧ validT z = true) := by
  unfold callV
  split
  · exact ⟨zeroB_zero, .inl rfl⟩
  · split
    · exact ⟨zeroB_zero, .inl rfl⟩
    · split
      · split
        · rename_i h
          exact ⟨zeroB_zero, callL_ans h⟩
        · rename_i h
          exact ⟨by show sameT _ _ = true; exact sameT_iff.2 ⟨callL_ball h, rfl⟩, .inl rfl⟩
      · exact ⟨zeroB_zero, .inl rfl⟩

set_option maxRecDepth 100000 in
set_option maxHeartbeats 4000000 in
theorem law_calls (t : Tm) (A : Option Addr) (c : Nat) (x : ByteArray) (ar : Int) (w : World) (hrg : rngT t = true) (ha : ArgsAt w (Old w.heap.size) A t.args) :
    Calls Tryz.prog 4 #[t.v A c, .string x, .int .i64 ar] w fun e w' => e = .returned (.bool true) ∧ Below w.heap.size w w' := by
  have HA := Lib.hid ha
  have HEV := Lib.hid (callV_same t)
  clear ha
  obtain ⟨w0, hw0⟩ : ∃ X, Hid (X = w.alloc (.cells #[.int .i64 t.kind, .int .i64 t.n, .string t.name, .slice A t.args.length c] 24)) := ⟨_, rfl⟩
  obtain ⟨q, hq⟩ : ∃ q, Hid (q = w.heap.size) := ⟨_, rfl⟩
  have HB0 := Lib.hid (show Below w.heap.size w w0 by rw [hw0.out]; exact bAlloc w _)
  have HK0 := Lib.hid (show Blk w0 q 24 #[.int .i64 t.kind, .int .i64 t.n, .string t.name, .slice A t.args.length c] by rw [hw0.out, hq.out]; exact Blk.new w _ _)
  have HFA := Lib.hid (show ∀ w', Below w0.heap.size w0 w' → w'.cell? ⟨q, 0, none⟩ = some (.int .i64 t.kind) ∧ w'.cell? ⟨q, 1, none⟩ = some (.int .i64 t.n) ∧ w'.cell? ⟨q, 2, none⟩ = some (.string t.name) ∧ w'.cell? ⟨q, 3, none⟩ = some (.slice A t.args.length c) ∧ q < w'.heap.size from fun w' hb => by
    have h := BlkNext HK0.out hb
    have e0 := h.cell 0
    have e1 := h.cell 1
    have e2 := h.cell 2
    have e3 := h.cell 3
    simp at e0 e1 e2 e3
    exact ⟨e0, e1, e2, e3, h.lt⟩)
  have HW0 := Lib.hid (Below.refl w0.heap.size w0)
  go_enter Tryz.func4, Tryz.ntmps4
  go_upto_region 1 with fail
  rw [← hw0.out, ← hq.out]
  clear hw0
  obtain ⟨e0, e1, e2, e3, el⟩ := HFA.out _ HW0.out
  go_wp2_with fail
  have hc1 := call18_any t A c w0 hrg (ArgsNext HA.out HB0.out)
  have hr1 : ∀ w, rngT t = true → ArgsAt w (Old w.heap.size) A t.args → Calls Tryz.prog 11 #[t.v A c] w fun e w' => CallR w (callV t) e w' ∧ Below w.heap.size w w' := fun w h1 h2 => rcall11_any t A c w h1 h2
  obtain ⟨⟨l, b, code⟩, hx⟩ : ∃ r, callV t = r := ⟨_, rfl⟩
  rw [hx] at hc1 hr1 HEV
  have HC1 := Lib.hid hc1
  have HR1 := Lib.hid hr1
  clear hc1 hr1 hx
  refine HC1.out.mono ?_
  rintro e v1 ⟨⟨_, A1, c1, rfl, ⟨L1, d1, rfl, hl1⟩, ha1⟩, hb⟩
  have HX1 := Lib.hid (ha1.keep (w' := v1) (G := Old v1.heap.size) (fun _ _ => rfl) (fun _ h => h.2))
  have HL1 := Lib.hid (hl1.keep (w' := v1) (G := Old v1.heap.size) (fun _ _ => rfl) (fun _ h => h.2))
  clear ha1 hl1 e0 e1 e2 e3 el
  go_upto_region 2 with fail
  obtain ⟨w1, hw1⟩ : ∃ X, Hid (X = v1.alloc (.cells #[.int .i64 b.kind, .int .i64 b.n, .string b.name, .slice A1 b.args.length c1] 24)) := ⟨_, rfl⟩
  obtain ⟨g1, hg1⟩ : ∃ q, Hid (q = v1.heap.size) := ⟨_, rfl⟩
  rw [← hw1.out, ← hg1.out]
  have hb1 : Below v1.heap.size v1 w1 := by rw [hw1.out]; exact bAlloc _ _
  have HW1 := Lib.hid (bNext hb hb1)
  have HB1 := Lib.hid (bNext HB0.out HW1.out)
  have HK1 := Lib.hid (show Blk w1 g1 24 #[.int .i64 b.kind, .int .i64 b.n, .string b.name, .slice A1 b.args.length c1] by rw [hw1.out, hg1.out]; exact Blk.new _ _ _)
  clear hw1
  have HX2 := Lib.hid (ArgsNext HX1.out hb1)
  have HL2 := Lib.hid (ArgsNext HL1.out hb1)
  clear hb hb1
  obtain ⟨e0, e1, e2, e3, el⟩ := HFA.out _ HW1.out
  go_wp2_with fail
  refine (HR1.out w1 hrg (ArgsNext HA.out HB1.out)).mono ?_
  rintro e v2 ⟨⟨_, A2, c2, rfl, ⟨L2, d2, rfl, hl2⟩, ha2⟩, hb⟩
  have HY1 := Lib.hid (ha2.keep (w' := v2) (G := Old v2.heap.size) (fun _ _ => rfl) (fun _ h => h.2))
  have HM1 := Lib.hid (hl2.keep (w' := v2) (G := Old v2.heap.size) (fun _ _ => rfl) (fun _ h => h.2))
  have HX3 := Lib.hid (ArgsNext HX2.out hb)
  have HL3 := Lib.hid (ArgsNext HL2.out hb)
  have HK1' := Lib.hid (BlkNext HK1.out hb)
  have HWv := Lib.hid (bNext HW1.out hb)
  clear ha2 hl2 hb e0 e1 e2 e3 el
  go_upto_region 3 with fail
  obtain ⟨w2, hw2⟩ : ∃ X, Hid (X = v2.alloc (.cells #[.int .i64 b.kind, .int .i64 b.n, .string b.name, .slice A2 b.args.length c2] 24)) := ⟨_, rfl⟩
  obtain ⟨g2, hg2⟩ : ∃ q, Hid (q = v2.heap.size) := ⟨_, rfl⟩
  rw [← hw2.out, ← hg2.out]
  have hb2 : Below v2.heap.size v2 w2 := by rw [hw2.out]; exact bAlloc _ _
  have HW2 := Lib.hid (bNext HWv.out hb2)
  have HB2 := Lib.hid (bNext HB0.out HW2.out)
  have HK2 := Lib.hid (show Blk w2 g2 24 #[.int .i64 b.kind, .int .i64 b.n, .string b.name, .slice A2 b.args.length c2] by rw [hw2.out, hg2.out]; exact Blk.new _ _ _)
  clear hw2
  have HY2 := Lib.hid (ArgsNext HY1.out hb2)
  have HM2 := Lib.hid (ArgsNext HM1.out hb2)
  have HX4 := Lib.hid (ArgsNext HX3.out hb2)
  have HL4 := Lib.hid (ArgsNext HL3.out hb2)
  have HK1'' := Lib.hid (BlkNext HK1'.out hb2)
  clear hb2
  have r0 := HK1''.out.cell 0
  have f0 := HK1''.out.frozen 0
  have r1 := HK1''.out.cell 1
  have f1 := HK1''.out.frozen 1
  have r2 := HK1''.out.cell 2
  have f2 := HK1''.out.frozen 2
  have r3 := HK1''.out.cell 3
  have f3 := HK1''.out.frozen 3
  have rl := HK1''.out.lt
  simp at r0 r1 r2 r3
  clear f0 f1 f2 f3
  have s0 := HK2.out.cell 0
  have f0 := HK2.out.frozen 0
  have s1 := HK2.out.cell 1
  have f1 := HK2.out.frozen 1
  have s2 := HK2.out.cell 2
  have f2 := HK2.out.frozen 2
  have s3 := HK2.out.cell 3
  have f3 := HK2.out.frozen 3
  have sl := HK2.out.lt
  simp at s0 s1 s2 s3
  clear f0 f1 f2 f3
  go_wp2_with fail
  refine (equal8_any 0 0 b b A1 c1 A2 c2 code code w2 HX4.out HY2.out).mono ?_
  rw [HEV.out.1]
  rintro e w3 ⟨rfl, hb⟩
  have HB3 := Lib.hid (bNext HB2.out hb)
  have HL5 := Lib.hid (ArgsNext HL4.out hb)
  have HM5 := Lib.hid (ArgsNext HM2.out hb)
  clear hb r0 r1 r2 r3 rl s0 s1 s2 s3 sl
  go_wp2_with fail
  refine (has34_any x ar w3).mono ?_
  obtain ⟨hs, hhs⟩ : ∃ u, Hid (u = hasS x ar) := ⟨_, rfl⟩
  rw [← hhs.out]
  rintro e w4 ⟨rfl, hb⟩
  have HB4 := Lib.hid (bNext HB3.out hb)
  have HL6 := Lib.hid (ArgsNext HL5.out hb)
  have HM6 := Lib.hid (ArgsNext HM5.out hb)
  clear hb
  go_wp2_with fail
  refine (rhas13_any x ar w4).mono ?_
  rw [← hhs.out]
  clear hhs
  rintro e w5 ⟨rfl, hb⟩
  have HB5 := Lib.hid (bNext HB4.out hb)
  have HL7 := Lib.hid (ArgsNext HL6.out hb)
  have HM7 := Lib.hid (ArgsNext HM6.out hb)
  clear hb
  have hbb : (hs != hs) = false := by cases hs <;> rfl
  go_wp2_with fail
  clear hbb
  have HEL := Lib.hid HEV.out.2
  rcases HEL.out with rfl | ⟨z, rfl, hz⟩
  · refine wp_loop_rounds 2 ?_
    rw [rounds_succ]
    go_wp2_with fail
    refine (example8_any w5).mono ?_
    rintro e wz ⟨rfl, hb⟩
    have HBZ := Lib.hid (bNext HB5.out hb)
    clear hb
    go_wp2_with fail
    go_ret
    exact ⟨rfl, HBZ.out⟩
  · have HZ := Lib.hid hz
    clear hz
    obtain ⟨rb1, ro1, z1, Az, cz, rfl, hF1, hz1, h41, hA1⟩ := HL7.out.at (i := 0) (by simp)
    obtain rfl : z = z1 := by simpa using hz1
    obtain ⟨rb2, ro2, z2, Ay, cy, rfl, hF2, hz2, h42, hA2⟩ := HM7.out.at (i := 0) (by simp)
    obtain rfl : z = z2 := by simpa using hz2
    have HFC := Lib.hid (show ∀ w', Below w5.heap.size w5 w' → w'.cell? ⟨rb1, ro1, none⟩ = some (.int .i64 z.kind) ∧ w'.cell? ⟨rb1, ro1 + 1, none⟩ = some (.int .i64 z.n) ∧ w'.cell? ⟨rb1, ro1 + 2, none⟩ = some (.string z.name) ∧ w'.cell? ⟨rb1, ro1 + 3, none⟩ = some (.slice Az z.args.length cz) ∧ rb1 < w'.heap.size ∧
        w'.cell? ⟨rb2, ro2, none⟩ = some (.int .i64 z.kind) ∧ w'.cell? ⟨rb2, ro2 + 1, none⟩ = some (.int .i64 z.n) ∧ w'.cell? ⟨rb2, ro2 + 2, none⟩ = some (.string z.name) ∧ w'.cell? ⟨rb2, ro2 + 3, none⟩ = some (.slice Ay z.args.length cy) ∧ rb2 < w'.heap.size from fun w' hb => by
      have d := h41.below hF1 hb
      have f := h42.below hF2 hb
      unfold TmCells at d f
      simp only [Nat.zero_mul, Nat.add_zero] at d f
      exact ⟨d.1, d.2.1, d.2.2.1, d.2.2.2, Nat.lt_of_lt_of_le hF1 hb.size, f.1, f.2.1, f.2.2.1, f.2.2.2, Nat.lt_of_lt_of_le hF2 hb.size⟩)
    have HA1 := Lib.hid hA1
    have HA2 := Lib.hid hA2
    clear hz1 h41 hA1 hz2 h42 hA2 hF1 hF2
    refine wp_loop_rounds 3 ?_
    rw [rounds_succ]
    go_upto_region 8 with fail
    obtain ⟨D, hD⟩ : ∃ X, Hid (X = w5.drew) := ⟨_, rfl⟩
    have hd : Below w5.heap.size w5 D := by rw [hD.out]; exact bDrewN (Below.refl _ _) 1
    have hS0 : Below w5.heap.size w5 D := hd
    refine wp_region_N (fun w' => Below w5.heap.size w5 w') (fun _ => true) (by kernel_rfl) ?_
    rw [← hD.out]
    have HBD := Lib.hid (bNext HB5.out hd)
    have HD := Lib.hid hd
    clear hD hd
    refine wpAnyN_take (i := 0) (v := ?v1) rfl (by kernel_rfl) (by kernel_rfl) (by kernel_rfl) (by kernel_rfl) (fun _ _ _ h => h) (Or.inl ⟨by rfl, ?hy1⟩) (by assumption) ?_
    case hy1 => intro w hSw; (try dsimp only at hSw); go_simp; try with_reducible rfl
    simp only [Act.put, List.getElem_toArray, List.getElem_cons_zero, List.setIfInBounds_toArray, List.set_cons_zero, List.set_cons_succ]
    refine wpAnyN_take (i := 1) (v := ?v2) rfl (by kernel_rfl) (by kernel_rfl) (by kernel_rfl) (by kernel_rfl) (fun _ _ _ h => h) (Or.inl ⟨by rfl, ?hy2⟩) (by assumption) ?_
    case hy2 => intro w hSw; (try dsimp only at hSw); go_simp; try with_reducible rfl
    simp only [Act.put, List.getElem_toArray, List.getElem_cons_zero, List.getElem_cons_succ, List.setIfInBounds_toArray, List.set_cons_zero, List.set_cons_succ]
    refine wpAnyN_take (i := 2) (v := ?v3) rfl (by kernel_rfl) (by kernel_rfl) (by kernel_rfl) (by kernel_rfl) (fun _ _ _ h => h) (Or.inl ⟨by rfl, ?hy3⟩) (by assumption) ?_
    case hy3 => intro w hSw; obtain ⟨r0, r1, r2, r3, rl, s0, s1, s2, s3, sl⟩ := HFC.out _ hSw; go_simp; try with_reducible rfl
    simp only [Act.put, List.getElem_toArray, List.getElem_cons_zero, List.getElem_cons_succ, List.setIfInBounds_toArray, List.set_cons_zero, List.set_cons_succ]
    refine wpAnyN_take (i := 3) (v := ?v4) rfl (by kernel_rfl) (by kernel_rfl) (by kernel_rfl) (by kernel_rfl) (fun _ _ _ h => h) (Or.inl ⟨by rfl, ?hy4⟩) (by assumption) ?_
    case hy4 => intro w hSw; obtain ⟨r0, r1, r2, r3, rl, s0, s1, s2, s3, sl⟩ := HFC.out _ hSw; go_simp; try with_reducible rfl
    simp only [Act.put, List.getElem_toArray, List.getElem_cons_zero, List.getElem_cons_succ, List.setIfInBounds_toArray, List.set_cons_zero, List.set_cons_succ]
    refine wpAnyN_take (i := 4) (v := ?v5) rfl (by kernel_rfl) (by kernel_rfl) (by kernel_rfl) (by kernel_rfl) (fun _ _ _ h => h) (Or.inl ⟨by rfl, ?hy5⟩) (by assumption) ?_
    case hy5 => intro w hSw; (try dsimp only at hSw); go_simp; try with_reducible rfl
    simp only [Act.put, List.getElem_toArray, List.getElem_cons_zero, List.getElem_cons_succ, List.setIfInBounds_toArray, List.set_cons_zero, List.set_cons_succ]
    refine wpAnyN_take (i := 5) (v := ?v6) rfl (by kernel_rfl) (by kernel_rfl) (by kernel_rfl) (by kernel_rfl) (fun _ _ _ h => h) (Or.inl ⟨by rfl, ?hy6⟩) (by assumption) ?_
    case hy6 => intro w hSw; (try dsimp only at hSw); go_simp; try with_reducible rfl
    simp only [Act.put, List.getElem_toArray, List.getElem_cons_zero, List.getElem_cons_succ, List.setIfInBounds_toArray, List.set_cons_zero, List.set_cons_succ]
    refine wpAnyN_take (i := 6) (v := ?v7) rfl (by kernel_rfl) (by kernel_rfl) (by kernel_rfl) (by kernel_rfl) (fun _ _ _ h => h) (Or.inl ⟨by rfl, ?hy7⟩) (by assumption) ?_
    case hy7 => intro w hSw; obtain ⟨r0, r1, r2, r3, rl, s0, s1, s2, s3, sl⟩ := HFC.out _ hSw; go_simp; try with_reducible rfl
    simp only [Act.put, List.getElem_toArray, List.getElem_cons_zero, List.getElem_cons_succ, List.setIfInBounds_toArray, List.set_cons_zero, List.set_cons_succ]
    refine wpAnyN_take (i := 7) (v := ?v8) rfl (by kernel_rfl) (by kernel_rfl) (by kernel_rfl) (by kernel_rfl) (fun _ _ _ h => h) (Or.inl ⟨by rfl, ?hy8⟩) (by assumption) ?_
    case hy8 => intro w hSw; obtain ⟨r0, r1, r2, r3, rl, s0, s1, s2, s3, sl⟩ := HFC.out _ hSw; go_simp; try with_reducible rfl
    simp only [Act.put, List.getElem_toArray, List.getElem_cons_zero, List.getElem_cons_succ, List.setIfInBounds_toArray, List.set_cons_zero, List.set_cons_succ]
    refine wpAnyN_one (i := 8) (by kernel_rfl) rfl (fun K hK => ?_)
    simp only [List.getElem_toArray, List.getElem_cons_zero, List.getElem_cons_succ]
    go_simp
    refine (same12_any z z Az cz Ay cy D (ArgsNext HA1.out HD.out) (ArgsNext HA2.out HD.out)).mono ?_
    rw [sameT_iff.2 ⟨HZ.out, rfl⟩]
    rintro e w6 ⟨rfl, hb⟩
    have hk6 : Below w5.heap.size w5 w6 := bNext hS0 hb
    refine hK _ _ (fun _ => hk6) ?_
    have HB6 := Lib.hid (bNext HBD.out hb)
    clear hb hS0
    (try simp only [Act.put, List.setIfInBounds_toArray, List.set_cons_zero, List.set_cons_succ])
    refine wpAnyN_take (i := 9) (v := ?v9) rfl (by kernel_rfl) (by kernel_rfl) (by kernel_rfl) (by kernel_rfl) (fun _ _ _ h => h) (Or.inl ⟨by rfl, ?hy9⟩) (by assumption) ?_
    case hy9 => intro w hSw; (try dsimp only at hSw); go_simp; try with_reducible rfl
    simp only [Act.put, List.getElem_toArray, List.getElem_cons_zero, List.getElem_cons_succ, List.setIfInBounds_toArray, List.set_cons_zero, List.set_cons_succ]
    refine wpAnyN_done (by kernel_rfl) ?_ _
    clear hk6
    go_wp2_with fail
    rw [rounds_succ]
    go_wp2_with fail
    refine (example8_any w6).mono ?_
    rintro e wz ⟨rfl, hb⟩
    have HBZ := Lib.hid (bNext HB6.out hb)
    clear hb
    go_wp2_with fail
    go_ret
    exact ⟨rfl, HBZ.out⟩
end Go.Proofs.YtcagaaacfcpoeaaGreat
