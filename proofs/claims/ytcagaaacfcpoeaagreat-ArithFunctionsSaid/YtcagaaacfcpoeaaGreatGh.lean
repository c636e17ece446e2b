/-
  Plain law and walk: what a function of two arguments gives.
-/
import Derived.Test.YtcagaaacfcpoeaaGreatGf
namespace Go.Proofs.YtcagaaacfcpoeaaGreat
open Go.RowKit

theorem two_valid {s : ByteArray} {a b : Tm} (h : validT (.mk 3 0 s [a, b]) = true) : validT a = true ∧ validT b = true ∧ s.size ≤ 100 := by
  have h3 := validT_ok h
  have h4 := h3.1
  rw [okT_mk] at h4
  simp only [okT.go, Bool.and_eq_true] at h4
  have h5 := h3.2
  rw [cnt_mk] at h5
  simp only [cnt.go] at h5
  refine ⟨?_, ?_, (node_small h4.1 (by decide) (by decide)).1⟩
  · unfold validT
    rw [h4.2.1, Bool.and_true, decide_eq_true_eq]
    omega
  · unfold validT
    rw [h4.2.2.1, Bool.and_true, decide_eq_true_eq]
    omega
theorem evT_cases {t : Tm} (h : validT t = true) : (∃ n, valT t = .ok n ∧ evT t = (n, zeroT, 0)) ∨ ∃ b, valT t = .error b ∧ evT t = (0, b, 8) ∧ validT b = true := by
  cases hv : valT t with
  | ok n => exact .inl ⟨n, rfl, evT_ok h hv⟩
  | error b => exact .inr ⟨b, rfl, evT_err h hv, valT_ball t b hv⟩
theorem evT_in {t : Tm} {n e : Int} {b : Tm} (hr : rngT t = true) (h : evT t = (n, b, e)) : inR n := by
  unfold evT at h
  split at h
  · injection h with h; subst h; exact in0
  · split at h
    · rename_i hv
      injection h with h
      subst h
      exact valT_in _ t (Nat.lt_succ_self _) hr _ hv
    · injection h with h; subst h; exact in0
theorem fun_unk {s : ByteArray} {a b : Tm} (h : validT (.mk 3 0 s [a, b]) = true) (hk : knS s 2 = false) : evT (.mk 3 0 s [a, b]) = (0, unkRC s 2, 8) ∧ sameT (unkRC s 2) (unkRC s 2) = true := by
  have h1 : valT (.mk 3 0 s [a, b]) = .error (unkRC s 2) := by
    rw [valT_unk (by simp [Tm.kind]) (by simp [Tm.kind]) (by simpa [Tm.name, Tm.args] using hk)]
    have h2 := unk_eq (s := s) (n := 2) (two_valid h).2.2 (by omega)
    exact congrArg Except.error h2
  exact ⟨evT_err h h1, sameT_iff.2 ⟨valT_ball _ _ h1, rfl⟩⟩
theorem fun_go {s : ByteArray} {a b : Tm} (hk : knS s 2 = true) : valT (.mk 3 0 s [a, b]) = match valT.go [a, b] with | .error c => .error c | .ok l => finV s l :=
  valT_fun (by simp [Tm.kind]) (by simp [Tm.kind]) (by simpa [Tm.name, Tm.args] using hk)
theorem fun_fst {s : ByteArray} {a b c : Tm} {n e : Int} (h : validT (.mk 3 0 s [a, b]) = true) (hk : knS s 2 = true) (ha : evT a = (n, c, e)) (he : e ≠ 0) : evT (.mk 3 0 s [a, b]) = (n, c, e) ∧ sameT c c = true := by
  rcases evT_cases (two_valid h).1 with ⟨m, h1, h2⟩ | ⟨d, h1, h2, h3⟩
  · rw [h2] at ha; simp only [Prod.mk.injEq] at ha; exact absurd ha.2.2.symm he
  · rw [h2] at ha
    simp only [Prod.mk.injEq] at ha
    obtain ⟨rfl, rfl, rfl⟩ := ha
    refine ⟨evT_err h ?_, sameT_iff.2 ⟨h3, rfl⟩⟩
    rw [fun_go hk]
    simp only [valT.go, h1]
theorem fun_snd {s : ByteArray} {a b c d : Tm} {m n e : Int} (h : validT (.mk 3 0 s [a, b]) = true) (hk : knS s 2 = true) (ha : evT a = (m, d, 0)) (hb : evT b = (n, c, e)) (he : e ≠ 0) : evT (.mk 3 0 s [a, b]) = (n, c, e) ∧ sameT c c = true := by
  rcases evT_cases (two_valid h).1 with ⟨m, h1, h2⟩ | ⟨d, h1, h2, h3⟩
  · rcases evT_cases (two_valid h).2.1 with ⟨m2, g1, g2⟩ | ⟨d2, g1, g2, g3⟩
    · rw [g2] at hb; simp only [Prod.mk.injEq] at hb; exact absurd hb.2.2.symm he
    · rw [g2] at hb
      simp only [Prod.mk.injEq] at hb
      obtain ⟨rfl, rfl, rfl⟩ := hb
      refine ⟨evT_err h ?_, sameT_iff.2 ⟨g3, rfl⟩⟩
      rw [fun_go hk]
      simp only [valT.go, h1, g1]
  · rw [h2] at ha; simp at ha
theorem fun_val {s : ByteArray} {a b c d : Tm} {m n : Int} (h : validT (.mk 3 0 s [a, b]) = true) (hk : knS s 2 = true) (ha : evT a = (m, c, 0)) (hb : evT b = (n, d, 0)) :
    (evT (.mk 3 0 s [a, b])).1 = (binS s m n).1 ∧ ((evT (.mk 3 0 s [a, b])).2.2 == 0) = ((binS s m n).2 == 0) := by
  rcases evT_cases (two_valid h).1 with ⟨m', h1, h2⟩ | ⟨d, h1, h2, h3⟩
  · rcases evT_cases (two_valid h).2.1 with ⟨n', g1, g2⟩ | ⟨d2, g1, g2, g3⟩
    · rw [h2] at ha
      rw [g2] at hb
      simp only [Prod.mk.injEq] at ha hb
      obtain ⟨rfl, -⟩ := ha
      obtain ⟨rfl, -⟩ := hb
      have hv : valT (.mk 3 0 s [a, b]) = valR (binS s m' n') := by
        rw [fun_go hk]
        simp only [valT.go, h1, g1]
        rfl
      have hc := cd_binS m' n' hk
      by_cases h0 : (binS s m' n').2 = 0
      · rw [evT_ok h (hv.trans (valR_ok h0)), h0]
        exact ⟨rfl, rfl⟩
      · have h9 := valR_bad hc h0
        rw [evT_err h (hv.trans h9.1), h9.2]
        exact ⟨rfl, by simpa using h0⟩
    · rw [g2] at hb; simp at hb
  · rw [h2] at ha; simp at ha
set_option maxRecDepth 100000 in
set_option maxHeartbeats 8000000 in
theorem law_functions (s : ByteArray) (a : Tm) (Aa : Option Addr) (ca : Nat) (b : Tm) (Ab : Option Addr) (cb : Nat) (w : World) (hra : rngT a = true) (hrb : rngT b = true) (ha : ArgsAt w (Old w.heap.size) Aa a.args) (hb : ArgsAt w (Old w.heap.size) Ab b.args) :
    Calls Tryz.prog 5 #[.string s, a.v Aa ca, b.v Ab cb] w fun e w' => e = .returned (.bool true) ∧ Below w.heap.size w w' := by
  have HA := Lib.hid ha
  have HBA := Lib.hid hb
  have HRA := Lib.hid hra
  have HRB := Lib.hid hrb
  clear ha hb hra hrb
  have HB0 := Lib.hid ((bAlloc w (.cells #[.int .i64 a.kind, .int .i64 a.n, .string a.name, .slice Aa a.args.length ca] 24)).alloc (by simp) (.cells #[.int .i64 b.kind, .int .i64 b.n, .string b.name, .slice Ab b.args.length cb] 24))
  go_enter Tryz.func5, Tryz.ntmps5
  go_upto_region 1 with fail
  obtain ⟨w0, hw0⟩ : ∃ X, Hid (X = (w.alloc (.cells #[.int .i64 a.kind, .int .i64 a.n, .string a.name, .slice Aa a.args.length ca] 24)).alloc (.cells #[.int .i64 b.kind, .int .i64 b.n, .string b.name, .slice Ab b.args.length cb] 24)) := ⟨_, rfl⟩
  have HFA := Lib.hid (show ∀ w', Below w0.heap.size w0 w' → w'.cell? ⟨w.heap.size, 0, none⟩ = some (.int .i64 a.kind) ∧ w'.cell? ⟨w.heap.size, 1, none⟩ = some (.int .i64 a.n) ∧ w'.cell? ⟨w.heap.size, 2, none⟩ = some (.string a.name) ∧ w'.cell? ⟨w.heap.size, 3, none⟩ = some (.slice Aa a.args.length ca) ∧ w.heap.size < w'.heap.size ∧
      w'.cell? ⟨w.heap.size + 1, 0, none⟩ = some (.int .i64 b.kind) ∧ w'.cell? ⟨w.heap.size + 1, 1, none⟩ = some (.int .i64 b.n) ∧ w'.cell? ⟨w.heap.size + 1, 2, none⟩ = some (.string b.name) ∧ w'.cell? ⟨w.heap.size + 1, 3, none⟩ = some (.slice Ab b.args.length cb) ∧ w.heap.size + 1 < w'.heap.size from fun w' hb => by
    have k0 : Blk w0 w.heap.size 24 #[.int .i64 a.kind, .int .i64 a.n, .string a.name, .slice Aa a.args.length ca] := by rw [hw0.out]; exact (Blk.new w _ _).alloc _
    have k1 : Blk w0 (w.heap.size + 1) 24 #[.int .i64 b.kind, .int .i64 b.n, .string b.name, .slice Ab b.args.length cb] := by
      rw [hw0.out]
      have h := Blk.new (w.alloc (.cells #[.int .i64 a.kind, .int .i64 a.n, .string a.name, .slice Aa a.args.length ca] 24)) 24 #[.int .i64 b.kind, .int .i64 b.n, .string b.name, .slice Ab b.args.length cb]
      rwa [World.size_alloc] at h
    have k0 := BlkNext k0 hb
    have k1 := BlkNext k1 hb
    have e0 := k0.cell 0
    have e1 := k0.cell 1
    have e2 := k0.cell 2
    have e3 := k0.cell 3
    have b0 := k1.cell 0
    have b1 := k1.cell 1
    have b2 := k1.cell 2
    have b3 := k1.cell 3
    simp at e0 e1 e2 e3 b0 b1 b2 b3
    exact ⟨e0, e1, e2, e3, k0.lt, b0, b1, b2, b3, k1.lt⟩)
  rw [← hw0.out] at HB0 ⊢
  clear hw0
  have HW0 := Lib.hid (Below.refl w0.heap.size w0)
  obtain ⟨e0, e1, e2, e3, el, b0, b1, b2, b3, bl⟩ := HFA.out _ HW0.out
  go_wp2_with fail
  obtain ⟨u1, hu1⟩ : ∃ X, Hid (X = w0.alloc (.cells #[.int .i64 a.kind, .int .i64 a.n, .string a.name, .slice Aa a.args.length ca, .int .i64 b.kind, .int .i64 b.n, .string b.name, .slice Ab b.args.length cb] 24)) := ⟨_, rfl⟩
  obtain ⟨gl, hgl⟩ : ∃ q, Hid (q = w0.heap.size) := ⟨_, rfl⟩
  rw [← hu1.out, ← hgl.out]
  have hbu : Below w0.heap.size w0 u1 := by rw [hu1.out]; exact bAlloc _ _
  have hlu : ArgsAt u1 (Old u1.heap.size) (some ⟨gl, 0, none⟩) [a, b] := by
    rw [hu1.out, hgl.out]
    exact args_two (F := Old w0.heap.size) (ArgsNext HA.out HB0.out) (ArgsNext HBA.out HB0.out) (fun z hz => ⟨hz, by have : z < w0.heap.size := hz; simp; omega⟩) (by simp)
  clear hu1 hgl
  refine (goal16_any s [a, b] (some ⟨gl, 0, none⟩) 2 u1).mono ?_
  obtain ⟨tt, htt⟩ : ∃ t, Hid (t = goalC s [a, b]) := ⟨_, rfl⟩
  rw [← htt.out]
  rintro e v1 ⟨rfl, hb1⟩
  have hlu1 : ArgsAt u1 (Old u1.heap.size) (some ⟨gl, 0, none⟩) tt.args := by rw [htt.out]; exact hlu
  have hav1 := ArgsNext hlu1 hb1
  have hb := bNext hbu hb1
  have HRT := Lib.hid (show rngT tt = true by rw [htt.out, rngT_mk]; simp [rngT.go, HRA.out, HRB.out, inR])
  clear hlu hlu1 hbu hb1
  clear e0 e1 e2 e3 el b0 b1 b2 b3 bl
  go_upto_region 2 with fail
  obtain ⟨w1, hw1⟩ : ∃ X, Hid (X = v1.alloc (.cells #[.int .i64 tt.kind, .int .i64 tt.n, .string tt.name, .slice (some ⟨gl, 0, none⟩) tt.args.length 2] 24)) := ⟨_, rfl⟩
  obtain ⟨g1, hg1⟩ : ∃ q, Hid (q = v1.heap.size) := ⟨_, rfl⟩
  rw [← hw1.out, ← hg1.out]
  have hba : Below v1.heap.size v1 w1 := by rw [hw1.out]; exact bAlloc _ _
  have HW1 := Lib.hid (bNext hb hba)
  have HB1 := Lib.hid (bNext HB0.out HW1.out)
  have HK1 := Lib.hid (show Blk w1 g1 24 #[.int .i64 tt.kind, .int .i64 tt.n, .string tt.name, .slice (some ⟨gl, 0, none⟩) tt.args.length 2] by rw [hw1.out, hg1.out]; exact Blk.new _ _ _)
  have HT1 := Lib.hid (ArgsNext hav1 hba)
  clear hw1 hba hb hav1
  have r0 := HK1.out.cell 0
  have f0 := HK1.out.frozen 0
  have r1 := HK1.out.cell 1
  have f1 := HK1.out.frozen 1
  have r2 := HK1.out.cell 2
  have f2 := HK1.out.frozen 2
  have r3 := HK1.out.cell 3
  have f3 := HK1.out.frozen 3
  have rl := HK1.out.lt
  simp at r0 r1 r2 r3
  clear f0 f1 f2 f3
  go_wp2_with fail
  clear r0 r1 r2 r3 rl
  refine (eval6_any tt (some ⟨gl, 0, none⟩) 2 w1 HRT.out HT1.out).mono ?_
  obtain ⟨⟨n, bt, et⟩, hev⟩ : ∃ r, evT tt = r := ⟨_, rfl⟩
  rw [hev]
  have HEV2 := Lib.hid hev
  clear hev
  rintro e v2 ⟨⟨A2, c2, rfl, ha2⟩, hb⟩
  have hav2 := ha2.keep (w' := v2) (G := Old v2.heap.size) (fun _ _ => rfl) (fun _ h => h.2)
  clear ha2
  have hb1 := hb
  go_upto_region 3 with fail
  obtain ⟨w2, hw2⟩ : ∃ X, Hid (X = v2.alloc (.cells #[.int .i64 bt.kind, .int .i64 bt.n, .string bt.name, .slice A2 bt.args.length c2] 24)) := ⟨_, rfl⟩
  obtain ⟨g2, hg2⟩ : ∃ q, Hid (q = v2.heap.size) := ⟨_, rfl⟩
  rw [← hw2.out, ← hg2.out]
  have hba : Below v2.heap.size v2 w2 := by rw [hw2.out]; exact bAlloc _ _
  have hbc := bNext hb hba
  have HP2 := Lib.hid hbc
  have HW2 := Lib.hid (bNext HW1.out hbc)
  have HB2 := Lib.hid (bNext HB1.out hbc)
  have HK2 := Lib.hid (show Blk w2 g2 24 #[.int .i64 bt.kind, .int .i64 bt.n, .string bt.name, .slice A2 bt.args.length c2] by rw [hw2.out, hg2.out]; exact Blk.new _ _ _)
  have HX2 := Lib.hid (ArgsNext hav2 hba)
  clear hw2 hba hbc hb hav2
  have HK1' := Lib.hid (BlkNext HK1.out HP2.out)
  clear hb1
  have r0 := HK1'.out.cell 0
  have f0 := HK1'.out.frozen 0
  have r1 := HK1'.out.cell 1
  have f1 := HK1'.out.frozen 1
  have r2 := HK1'.out.cell 2
  have f2 := HK1'.out.frozen 2
  have r3 := HK1'.out.cell 3
  have f3 := HK1'.out.frozen 3
  have rl := HK1'.out.lt
  simp at r0 r1 r2 r3
  clear f0 f1 f2 f3
  go_wp2_with fail
  refine (valid03_any tt (some ⟨gl, 0, none⟩) 2 w2 (ArgsNext HT1.out HP2.out)).mono ?_
  rintro e w3 ⟨rfl, hb⟩
  have HP3 := Lib.hid hb
  have HB3 := Lib.hid (bNext HB2.out hb)
  have HW3 := Lib.hid (bNext HW2.out hb)
  clear hb r0 r1 r2 r3 rl
  rw [htt.out] at HEV2 ⊢
  cases hv : validT (goalC s [a, b])
  · rw [evT_bad hv] at HEV2
    have h := HEV2.out
    simp only [Prod.mk.injEq] at h
    obtain ⟨rfl, rfl, rfl⟩ := h
    clear hv
    go_wp2_with fail
    refine (example8_any w3).mono ?_
    rintro e wz ⟨rfl, hb⟩
    have HBZ := Lib.hid (bNext HB3.out hb)
    clear hb
    go_wp2_with fail
    go_ret
    exact ⟨rfl, HBZ.out⟩
  · have HV := Lib.hid hv
    clear hv
    obtain ⟨e0, e1, e2, e3, el, b0, b1, b2, b3, bl⟩ := HFA.out _ HW3.out
    go_wp2_with fail
    clear e0 e1 e2 e3 el b0 b1 b2 b3 bl
    refine (eval6_any a Aa ca w3 HRA.out (ArgsNext HA.out HB3.out)).mono ?_
    obtain ⟨⟨x, fa, f⟩, hev⟩ : ∃ r, evT a = r := ⟨_, rfl⟩
    rw [hev]
    have HEV4 := Lib.hid hev
    clear hev
    rintro e v4 ⟨⟨A4, c4, rfl, ha4⟩, hb⟩
    have hav4 := ha4.keep (w' := v4) (G := Old v4.heap.size) (fun _ _ => rfl) (fun _ h => h.2)
    clear ha4
    go_upto_region 6 with fail
    obtain ⟨w4, hw4⟩ : ∃ X, Hid (X = v4.alloc (.cells #[.int .i64 fa.kind, .int .i64 fa.n, .string fa.name, .slice A4 fa.args.length c4] 24)) := ⟨_, rfl⟩
    obtain ⟨g4, hg4⟩ : ∃ q, Hid (q = v4.heap.size) := ⟨_, rfl⟩
    rw [← hw4.out, ← hg4.out]
    have hba : Below v4.heap.size v4 w4 := by rw [hw4.out]; exact bAlloc _ _
    have hbc := bNext hb hba
    have HP4 := Lib.hid hbc
    have HW4 := Lib.hid (bNext HW3.out hbc)
    have HB4 := Lib.hid (bNext HB3.out hbc)
    have HK4 := Lib.hid (show Blk w4 g4 24 #[.int .i64 fa.kind, .int .i64 fa.n, .string fa.name, .slice A4 fa.args.length c4] by rw [hw4.out, hg4.out]; exact Blk.new _ _ _)
    have HX4 := Lib.hid (ArgsNext hav4 hba)
    clear hw4 hba hbc hb hav4
    obtain ⟨e0, e1, e2, e3, el, b0, b1, b2, b3, bl⟩ := HFA.out _ HW4.out
    go_wp2_with fail
    clear e0 e1 e2 e3 el b0 b1 b2 b3 bl
    refine (eval6_any b Ab cb w4 HRB.out (ArgsNext HBA.out HB4.out)).mono ?_
    obtain ⟨⟨y, sb, g⟩, hev⟩ : ∃ r, evT b = r := ⟨_, rfl⟩
    rw [hev]
    have HEV5 := Lib.hid hev
    clear hev
    rintro e v5 ⟨⟨A5, c5, rfl, ha5⟩, hb⟩
    have hav5 := ha5.keep (w' := v5) (G := Old v5.heap.size) (fun _ _ => rfl) (fun _ h => h.2)
    clear ha5
    go_upto_region 7 with fail
    obtain ⟨w5, hw5⟩ : ∃ X, Hid (X = v5.alloc (.cells #[.int .i64 sb.kind, .int .i64 sb.n, .string sb.name, .slice A5 sb.args.length c5] 24)) := ⟨_, rfl⟩
    obtain ⟨g5, hg5⟩ : ∃ q, Hid (q = v5.heap.size) := ⟨_, rfl⟩
    rw [← hw5.out, ← hg5.out]
    have hba : Below v5.heap.size v5 w5 := by rw [hw5.out]; exact bAlloc _ _
    have hbc := bNext hb hba
    have HP5 := Lib.hid hbc
    have HW5 := Lib.hid (bNext HW4.out hbc)
    have HB5 := Lib.hid (bNext HB4.out hbc)
    have HK5 := Lib.hid (show Blk w5 g5 24 #[.int .i64 sb.kind, .int .i64 sb.n, .string sb.name, .slice A5 sb.args.length c5] by rw [hw5.out, hg5.out]; exact Blk.new _ _ _)
    have HX5 := Lib.hid (ArgsNext hav5 hba)
    clear hw5 hba hbc hb hav5
    go_wp2_with fail
    refine (RKnown_any s 2 w5).mono ?_
    rintro e w6 ⟨rfl, hb⟩
    have H26 := bNext (bNext (bNext HP3.out HP4.out) HP5.out) hb
    have H46 := bNext HP5.out hb
    have H56 := hb
    have HB6 := Lib.hid (bNext HB5.out hb)
    have HK26 := Lib.hid (BlkNext HK2.out H26)
    clear hb
    cases hk : knS s 2
    · have hf := fun_unk HV.out hk
      have hq := HEV2.out.symm.trans hf.1
      simp only [Prod.mk.injEq] at hq
      obtain ⟨rfl, h2, rfl⟩ := hq
      have HS := Lib.hid (show sameT bt bt = true by rw [h2]; exact hf.2)
      have HBT := Lib.hid h2
      have HX26 := Lib.hid (ArgsNext HX2.out H26)
      clear hf h2 hk
      go_upto_region 8 with fail
      obtain ⟨D, hD⟩ : ∃ X, Hid (X = w6.drew) := ⟨_, rfl⟩
      have hd : Below w6.heap.size w6 D := by rw [hD.out]; exact bDrewN (Below.refl _ _) 1
      have hS0 : Below w6.heap.size w6 D := hd
      refine wp_region_N (fun w' => Below w6.heap.size w6 w') (fun _ => true) (by kernel_rfl) ?_
      rw [← hD.out]
      have HBD := Lib.hid (bNext HB6.out hd)
      clear hD hd
      refine wpAnyN_take (i := 0) (v := ?v1) rfl (by kernel_rfl) (by kernel_rfl) (by kernel_rfl) (by kernel_rfl) (fun _ _ _ h => h) (Or.inl ⟨by rfl, ?hy1⟩) (by assumption) ?_
      case hy1 => intro w hSw; (try dsimp only at hSw); go_simp; try with_reducible rfl
      simp only [Act.put, List.getElem_toArray, List.getElem_cons_zero, List.setIfInBounds_toArray, List.set_cons_zero, List.set_cons_succ]
      refine wpAnyN_take (i := 1) (v := ?v2) rfl (by kernel_rfl) (by kernel_rfl) (by kernel_rfl) (by kernel_rfl) (fun _ _ _ h => h) (Or.inl ⟨by rfl, ?hy2⟩) (by assumption) ?_
      case hy2 => intro w hSw; (try dsimp only at hSw); go_simp; try with_reducible rfl
      simp only [Act.put, List.getElem_toArray, List.getElem_cons_zero, List.getElem_cons_succ, List.setIfInBounds_toArray, List.set_cons_zero, List.set_cons_succ]
      refine wpAnyN_take (i := 2) (v := ?v3) rfl (by kernel_rfl) (by kernel_rfl) (by kernel_rfl) (by kernel_rfl) (fun _ _ _ h => h) (Or.inl ⟨by rfl, ?hy3⟩) (by assumption) ?_
      case hy3 => intro w hSw; (try dsimp only at hSw); go_simp; try with_reducible rfl
      simp only [Act.put, List.getElem_toArray, List.getElem_cons_zero, List.getElem_cons_succ, List.setIfInBounds_toArray, List.set_cons_zero, List.set_cons_succ]
      refine wpAnyN_take (i := 3) (v := ?v4) rfl (by kernel_rfl) (by kernel_rfl) (by kernel_rfl) (by kernel_rfl) (fun _ _ _ h => h) (Or.inl ⟨by rfl, ?hy4⟩) (by assumption) ?_
      case hy4 => intro w hSw; have h := BlkNext HK26.out hSw; have r0 := h.cell 0; have r1 := h.cell 1; have r2 := h.cell 2; have r3 := h.cell 3; have rl := h.lt; simp at r0 r1 r2 r3; clear h; go_simp; try with_reducible rfl
      simp only [Act.put, List.getElem_toArray, List.getElem_cons_zero, List.getElem_cons_succ, List.setIfInBounds_toArray, List.set_cons_zero, List.set_cons_succ]
      refine wpAnyN_take (i := 4) (v := ?v5) rfl (by kernel_rfl) (by kernel_rfl) (by kernel_rfl) (by kernel_rfl) (fun _ _ _ h => h) (Or.inl ⟨by rfl, ?hy5⟩) (by assumption) ?_
      case hy5 => intro w hSw; (try dsimp only at hSw); go_simp; try with_reducible rfl
      simp only [Act.put, List.getElem_toArray, List.getElem_cons_zero, List.getElem_cons_succ, List.setIfInBounds_toArray, List.set_cons_zero, List.set_cons_succ]
      refine wpAnyN_one (i := 5) (by kernel_rfl) rfl (fun K hK => ?_)
      simp only [List.getElem_toArray, List.getElem_cons_zero, List.getElem_cons_succ]
      go_simp
      refine (indi19_any s 2 D).mono ?_
      rintro e w7 ⟨⟨A7, c7, rfl, ha7⟩, hb⟩
      have hk7 : Below w6.heap.size w6 w7 := bNext hS0 hb
      refine hK _ _ (fun _ => hk7) ?_
      have HB7 := Lib.hid (bNext HBD.out hb)
      have hty := type18_any { data := #[101, 118, 97, 108, 117, 97, 98, 108, 101] } (indRC s 2) A7 c7 w7 (ha7.keep (fun _ _ => rfl) (fun _ h => h.2))
      have hbt : withC (indRC s 2) { data := #[116, 121, 112, 101, 95, 101, 114, 114, 111, 114] } { data := #[101, 118, 97, 108, 117, 97, 98, 108, 101] } = bt := HBT.out.symm
      rw [hbt] at hty
      obtain ⟨u, hu⟩ : ∃ t, t = indRC s 2 := ⟨_, rfl⟩
      rw [← hu] at hty ⊢
      have HTY := Lib.hid hty
      clear hb hS0 ha7 hbt hty hu
      (try simp only [Act.put, List.setIfInBounds_toArray, List.set_cons_zero, List.set_cons_succ])
      refine wpAnyN_one (i := 6) (by kernel_rfl) rfl (fun K hK => ?_)
      simp only [List.getElem_toArray, List.getElem_cons_zero, List.getElem_cons_succ]
      go_simp
      refine HTY.out.mono ?_
      rintro e w8 ⟨⟨A8, c8, rfl, ha8⟩, hb⟩
      have hk8 : Below w6.heap.size w6 w8 := bNext hk7 hb
      refine hK _ _ (fun _ => hk8) ?_
      have HB8 := Lib.hid (bNext HB7.out hb)
      have HX8 := Lib.hid (ha8.keep (w' := w8) (G := Old w8.heap.size) (fun _ _ => rfl) (fun _ h => h.2))
      clear hb hk7 ha8
      (try simp only [Act.put, List.setIfInBounds_toArray, List.set_cons_zero, List.set_cons_succ])
      refine wpAnyN_one (i := 7) (by kernel_rfl) rfl (fun K hK => ?_)
      simp only [List.getElem_toArray, List.getElem_cons_zero, List.getElem_cons_succ]
      go_simp
      refine (same12_any bt bt A2 c2 A8 c8 w8 (ArgsNext HX26.out hk8) HX8.out).mono ?_
      rw [HS.out]
      rintro e w9 ⟨rfl, hb⟩
      have hk9 : Below w6.heap.size w6 w9 := bNext hk8 hb
      refine hK _ _ (fun _ => hk9) ?_
      have HB9 := Lib.hid (bNext HB8.out hb)
      clear hb hk8
      (try simp only [Act.put, List.setIfInBounds_toArray, List.set_cons_zero, List.set_cons_succ])
      refine wpAnyN_take (i := 8) (v := ?v6) rfl (by kernel_rfl) (by kernel_rfl) (by kernel_rfl) (by kernel_rfl) (fun _ _ _ h => h) (Or.inl ⟨by rfl, ?hy6⟩) (by assumption) ?_
      case hy6 => intro w hSw; (try dsimp only at hSw); go_simp; try with_reducible rfl
      simp only [Act.put, List.getElem_toArray, List.getElem_cons_zero, List.getElem_cons_succ, List.setIfInBounds_toArray, List.set_cons_zero, List.set_cons_succ]
      refine wpAnyN_take (i := 9) (v := ?v7) rfl (by kernel_rfl) (by kernel_rfl) (by kernel_rfl) (by kernel_rfl) (fun _ _ _ h => h) (Or.inl ⟨by rfl, ?hy7⟩) (by assumption) ?_
      case hy7 => intro w hSw; (try dsimp only at hSw); go_simp; try with_reducible rfl
      simp only [Act.put, List.getElem_toArray, List.getElem_cons_zero, List.getElem_cons_succ, List.setIfInBounds_toArray, List.set_cons_zero, List.set_cons_succ]
      refine wpAnyN_one (i := 10) (by kernel_rfl) rfl (fun K hK => ?_)
      simp only [List.getElem_toArray, List.getElem_cons_zero, List.getElem_cons_succ]
      go_simp
      refine (example8_any w9).mono ?_
      rintro e wz ⟨rfl, hb⟩
      have hkz : Below w6.heap.size w6 wz := bNext hk9 hb
      refine hK _ _ (fun _ => hkz) ?_
      have HBZ := Lib.hid (bNext HB9.out hb)
      clear hb hk9
      (try simp only [Act.put, List.setIfInBounds_toArray, List.set_cons_zero, List.set_cons_succ])
      refine wpAnyN_take (i := 11) (v := ?v8) rfl (by kernel_rfl) (by kernel_rfl) (by kernel_rfl) (by kernel_rfl) (fun _ _ _ h => h) (Or.inl ⟨by rfl, ?hy8⟩) (by assumption) ?_
      case hy8 => intro w hSw; (try dsimp only at hSw); go_simp; try with_reducible rfl
      simp only [Act.put, List.getElem_toArray, List.getElem_cons_zero, List.getElem_cons_succ, List.setIfInBounds_toArray, List.set_cons_zero, List.set_cons_succ]
      refine wpAnyN_take (i := 12) (v := ?v9) rfl (by kernel_rfl) (by kernel_rfl) (by kernel_rfl) (by kernel_rfl) (fun _ _ _ h => h) (Or.inl ⟨by rfl, ?hy9⟩) (by assumption) ?_
      case hy9 => intro w hSw; (try dsimp only at hSw); go_simp; try with_reducible rfl
      simp only [Act.put, List.getElem_toArray, List.getElem_cons_zero, List.getElem_cons_succ, List.setIfInBounds_toArray, List.set_cons_zero, List.set_cons_succ]
      refine wpAnyN_done (by kernel_rfl) ?_ _
      clear hkz
      go_wp2_with fail
      go_ret
      exact ⟨rfl, HBZ.out⟩
    · have HKN := Lib.hid hk
      clear hk
      by_cases hf0 : f = 0
      · subst hf0
        by_cases hg0 : g = 0
        · subst hg0
          have hvl := fun_val HV.out HKN.out HEV4.out HEV5.out
          rw [HEV2.out] at hvl
          obtain ⟨rfl, hvq⟩ := hvl
          have hxr := evT_in HRA.out HEV4.out
          have hyr := evT_in HRB.out HEV5.out
          go_wp2_with fail
          refine (RBinary_any s x y hxr hyr w6).mono ?_
          rintro e w7 ⟨rfl, rfl⟩
          obtain ⟨p1, p2, hp⟩ := prod_ex (binS s x y)
          rw [hp] at hvq ⊢
          rw [pair]
          dsimp only at hvq ⊢
          go_wp2_with fail
          refine (example8_any w6).mono ?_
          rintro e wz ⟨rfl, hb⟩
          have HBZ := Lib.hid (bNext HB6.out hb)
          clear hb
          go_wp2_with fail
          go_ret
          exact ⟨rfl, HBZ.out⟩
        · have hsn := fun_snd HV.out HKN.out HEV4.out HEV5.out hg0
          have hq := HEV2.out.symm.trans hsn.1
          simp only [Prod.mk.injEq] at hq
          obtain ⟨h1, h2, h3⟩ := hq
          have HS := Lib.hid hsn.2
          clear hsn
          subst h1 h2 h3
          have q0 : (et != 0) = true := by simpa using hg0
          have HK56 := Lib.hid (BlkNext HK5.out H56)
          have r0 := HK26.out.cell 0
          have f0 := HK26.out.frozen 0
          have r1 := HK26.out.cell 1
          have f1 := HK26.out.frozen 1
          have r2 := HK26.out.cell 2
          have f2 := HK26.out.frozen 2
          have r3 := HK26.out.cell 3
          have f3 := HK26.out.frozen 3
          have rl := HK26.out.lt
          simp at r0 r1 r2 r3
          clear f0 f1 f2 f3
          have s0 := HK56.out.cell 0
          have f0 := HK56.out.frozen 0
          have s1 := HK56.out.cell 1
          have f1 := HK56.out.frozen 1
          have s2 := HK56.out.cell 2
          have f2 := HK56.out.frozen 2
          have s3 := HK56.out.cell 3
          have f3 := HK56.out.frozen 3
          have sl := HK56.out.lt
          simp at s0 s1 s2 s3
          clear f0 f1 f2 f3
          go_wp2_with fail
          refine (same12_any bt bt A2 c2 A5 c5 w6 (ArgsNext HX2.out H26) (ArgsNext HX5.out H56)).mono ?_
          rw [HS.out]
          rintro e w7 ⟨rfl, hb⟩
          have HB7 := Lib.hid (bNext HB6.out hb)
          clear hb
          clear r0 r1 r2 r3 rl s0 s1 s2 s3 sl
          go_wp2_with fail
          refine (example8_any w7).mono ?_
          rintro e wz ⟨rfl, hb⟩
          have HBZ := Lib.hid (bNext HB7.out hb)
          clear hb
          go_wp2_with fail
          go_ret
          exact ⟨rfl, HBZ.out⟩
      · have hsn := fun_fst HV.out HKN.out HEV4.out hf0
        have hq := HEV2.out.symm.trans hsn.1
        simp only [Prod.mk.injEq] at hq
        obtain ⟨h1, h2, h3⟩ := hq
        have HS := Lib.hid hsn.2
        clear hsn
        subst h1 h2 h3
        have q0 : (et != 0) = true := by simpa using hf0
        have HK46 := Lib.hid (BlkNext HK4.out H46)
        have r0 := HK26.out.cell 0
        have f0 := HK26.out.frozen 0
        have r1 := HK26.out.cell 1
        have f1 := HK26.out.frozen 1
        have r2 := HK26.out.cell 2
        have f2 := HK26.out.frozen 2
        have r3 := HK26.out.cell 3
        have f3 := HK26.out.frozen 3
        have rl := HK26.out.lt
        simp at r0 r1 r2 r3
        clear f0 f1 f2 f3
        have s0 := HK46.out.cell 0
        have f0 := HK46.out.frozen 0
        have s1 := HK46.out.cell 1
        have f1 := HK46.out.frozen 1
        have s2 := HK46.out.cell 2
        have f2 := HK46.out.frozen 2
        have s3 := HK46.out.cell 3
        have f3 := HK46.out.frozen 3
        have sl := HK46.out.lt
        simp at s0 s1 s2 s3
        clear f0 f1 f2 f3
        go_wp2_with fail
        refine (same12_any bt bt A2 c2 A4 c4 w6 (ArgsNext HX2.out H26) (ArgsNext HX4.out H46)).mono ?_
        rw [HS.out]
        rintro e w7 ⟨rfl, hb⟩
        have HB7 := Lib.hid (bNext HB6.out hb)
        clear hb
        clear r0 r1 r2 r3 rl s0 s1 s2 s3 sl
        go_wp2_with fail
        refine (example8_any w7).mono ?_
        rintro e wz ⟨rfl, hb⟩
        have HBZ := Lib.hid (bNext HB7.out hb)
        clear hb
        go_wp2_with fail
        go_ret
        exact ⟨rfl, HBZ.out⟩
end Go.Proofs.YtcagaaacfcpoeaaGreat
