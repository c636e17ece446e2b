/-
  Walk: the law of expressions without variables.
-/
import Derived.Test.YtcagaaacfcpoeaaEa
namespace Go.Proofs.Ytcagaaacfcpoeaa
open Go.RowKit

theorem zeroB_zero : zeroB zeroT = true := by simp [zeroB, Tm.kind, Tm.n, Tm.name, Tm.args, ByteArray.toList_eq]
set_option maxRecDepth 100000 in
set_option maxHeartbeats 4000000 in
theorem law_ground (a : Tm) (Aa : Option Addr) (ca : Nat) (b : Tm) (Ab : Option Addr) (cb : Nat) (w : World) (hra : rngT a = true) (hrb : rngT b = true) (ha : ArgsAt w (Old w.heap.size) Aa a.args) (hb : ArgsAt w (Old w.heap.size) Ab b.args) :
    Calls Try.prog 5 #[a.v Aa ca, b.v Ab cb] w fun e w' => e = .returned (.bool true) ∧ Below w.heap.size w w' := by
  have HA := Lib.hid ha
  have HBA := Lib.hid hb
  have HRA := Lib.hid hra
  have HRB := Lib.hid hrb
  clear ha hb hra hrb
  have HB0 := Lib.hid ((bAlloc w (.cells #[.int .i64 a.kind, .int .i64 a.n, .string a.name, .slice Aa a.args.length ca] 24)).alloc (by simp) (.cells #[.int .i64 b.kind, .int .i64 b.n, .string b.name, .slice Ab b.args.length cb] 24))
  go_enter Try.func5, Try.ntmps5
  go_upto_region 1 with fail
  obtain ⟨w0, hw0⟩ : ∃ X, Hid (X = (w.alloc (.cells #[.int .i64 a.kind, .int .i64 a.n, .string a.name, .slice Aa a.args.length ca] 24)).alloc (.cells #[.int .i64 b.kind, .int .i64 b.n, .string b.name, .slice Ab b.args.length cb] 24)) := ⟨_, rfl⟩
  have HFA := Lib.hid (show ∀ w', Below w0.heap.size w0 w' → w'.cell? ⟨w.heap.size, 0, none⟩ = some (.int .i64 a.kind) ∧ w'.cell? ⟨w.heap.size, 1, none⟩ = some (.int .i64 a.n) ∧ w'.cell? ⟨w.heap.size, 2, none⟩ = some (.string a.name) ∧ w'.cell? ⟨w.heap.size, 3, none⟩ = some (.slice Aa a.args.length ca) ∧ w.heap.size < w'.heap.size ∧
      w'.cell? ⟨w.heap.size + 1, 0, none⟩ = some (.int .i64 b.kind) ∧ w'.cell? ⟨w.heap.size + 1, 1, none⟩ = some (.int .i64 b.n) ∧ w'.cell? ⟨w.heap.size + 1, 2, none⟩ = some (.string b.name) ∧ w'.cell? ⟨w.heap.size + 1, 3, none⟩ = some (.slice Ab b.args.length cb) ∧ w.heap.size + 1 < w'.heap.size from fun w' hb => by
    have k0 : Blk w0 w.heap.size 24 #[.int .i64 a.kind, .int .i64 a.n, .string a.name, .slice Aa a.args.length ca] := by rw [hw0.out]; exact (Blk.new w _ _).alloc _
    have k1 : Blk w0 (w.heap.size + 1) 24 #[.int .i64 b.kind, .int .i64 b.n, .string b.name, .slice Ab b.args.length cb] := by
      rw [hw0.out]
      have h := Blk.new (w.alloc (.cells #[.int .i64 a.kind, .int .i64 a.n, .string a.name, .slice Aa a.args.length ca] 24)) 24 #[.int .i64 b.kind, .int .i64 b.n, .string b.name, .slice Ab b.args.length cb]
      rwa [World.size_alloc] at h
    have k0 := BlkNext k0 hb
    have k1 := BlkNext k1 hb
    have e0 := k0.cell 0
    have e1 := k0.cell 1
    have e2 := k0.cell 2
    have e3 := k0.cell 3
    have b0 := k1.cell 0
    have b1 := k1.cell 1
    have b2 := k1.cell 2
    have b3 := k1.cell 3
    simp at e0 e1 e2 e3 b0 b1 b2 b3
    exact ⟨e0, e1, e2, e3, k0.lt, b0, b1, b2, b3, k1.lt⟩)
  rw [← hw0.out] at HB0 ⊢
  clear hw0
  have HW0 := Lib.hid (Below.refl w0.heap.size w0)
  obtain ⟨e0, e1, e2, e3, el, b0, b1, b2, b3, bl⟩ := HFA.out _ HW0.out
  go_wp2_with fail
  refine (eval6_any a Aa ca w0 HRA.out (ArgsNext HA.out HB0.out)).mono ?_
  rintro e v1 ⟨⟨A1, c1, rfl, -⟩, hb⟩
  have hbv : Below w0.heap.size w0 v1 := bNext HW0.out hb
  clear hb
  obtain ⟨⟨n, ba, ea⟩, hev1⟩ : ∃ r, evT a = r := ⟨_, rfl⟩
  rw [hev1]
  have HEV1 := Lib.hid hev1
  clear hev1
  clear e0 e1 e2 e3 el b0 b1 b2 b3 bl
  go_upto_region 2 with fail
  obtain ⟨w1, hw1⟩ : ∃ X, Hid (X = v1.alloc (.cells #[.int .i64 ba.kind, .int .i64 ba.n, .string ba.name, .slice A1 ba.args.length c1] 24)) := ⟨_, rfl⟩
  obtain ⟨g1, hg1⟩ : ∃ q, Hid (q = v1.heap.size) := ⟨_, rfl⟩
  rw [← hw1.out, ← hg1.out]
  have HW1 := Lib.hid (show Below w0.heap.size w0 w1 by rw [hw1.out]; exact bNext hbv (bAlloc _ _))
  have HB1 := Lib.hid (bNext HB0.out HW1.out)
  have hk1 : Blk w1 g1 24 #[.int .i64 ba.kind, .int .i64 ba.n, .string ba.name, .slice A1 ba.args.length c1] := by rw [hw1.out, hg1.out]; exact Blk.new _ _ _
  have hbb1 : Below v1.heap.size v1 w1 := by rw [hw1.out]; exact bAlloc _ _
  clear hbv hw1
  by_cases hea : ea = 0
  · subst hea
    have hva := evT_zero (t := a) (by rw [HEV1.out])
    rw [HEV1.out] at hva
    have HVA := Lib.hid hva
    have HGN := Lib.hid (val_gnd a (validT_ok hva.1).1 n hva.2)
    clear hva
    obtain ⟨e0, e1, e2, e3, el, b0, b1, b2, b3, bl⟩ := HFA.out _ HW1.out
    go_wp2_with fail
    refine (vars13_any a Aa ca w1 (ArgsNext HA.out HB1.out)).mono ?_
    rintro e w2 ⟨⟨Av, nv, cv, rfl, hnv⟩, hb⟩
    have hn0 : nv = 0 := by rw [hnv, if_pos HVA.out.1, gnd_vars a [] HGN.out.1]; rfl
    subst hn0
    have HB2 := Lib.hid (bNext HB1.out hb)
    have HW2 := Lib.hid (bNext HW1.out hb)
    clear hb hnv
    clear e0 e1 e2 e3 el b0 b1 b2 b3 bl
    obtain ⟨e0, e1, e2, e3, el, b0, b1, b2, b3, bl⟩ := HFA.out _ HW2.out
    go_wp2_with fail
    refine (atoms14_any _ a (Nat.lt_succ_self _) Aa ca w2 (ArgsNext HA.out HB2.out)).mono ?_
    rw [HGN.out.2]
    rintro e w3 ⟨rfl, hb⟩
    have HB3 := Lib.hid (bNext HB2.out hb)
    have HW3 := Lib.hid (bNext HW2.out hb)
    clear hb
    clear e0 e1 e2 e3 el b0 b1 b2 b3 bl
    obtain ⟨e0, e1, e2, e3, el, b0, b1, b2, b3, bl⟩ := HFA.out _ HW3.out
    go_wp2_with fail
    obtain ⟨w4, hw4⟩ : ∃ X, Hid (X = w3.alloc (.cells #[.int .i64 b.kind, .int .i64 b.n, .string b.name, .slice Ab b.args.length cb, .int .i64 a.kind, .int .i64 a.n, .string a.name, .slice Aa a.args.length ca] 24)) := ⟨_, rfl⟩
    obtain ⟨g4, hg4⟩ : ∃ q, Hid (q = w3.heap.size) := ⟨_, rfl⟩
    rw [← hw4.out, ← hg4.out]
    have hb : Below w3.heap.size w3 w4 := by rw [hw4.out]; exact bAlloc _ _
    have HB4 := Lib.hid (bNext HB3.out hb)
    have HW4 := Lib.hid (bNext HW3.out hb)
    have HL4 := Lib.hid (show ArgsAt w4 (Old w4.heap.size) (some ⟨g4, 0, none⟩) [b, a] by
      rw [hw4.out, hg4.out]
      exact args_two (F := Old w3.heap.size) (x := b) (y := a) (A := Ab) (B := Aa) (c := cb) (d := ca) (ArgsNext HBA.out HB3.out) (ArgsNext HA.out HB3.out) (fun b hb => ⟨hb, by have : b < w3.heap.size := hb; simp; omega⟩) (by simp))
    clear hb hw4
    clear e0 e1 e2 e3 el b0 b1 b2 b3 bl
    refine (goal16_any _ [b, a] (some ⟨g4, 0, none⟩) 2 w4).mono ?_
    rintro e w5 ⟨rfl, hb⟩
    have HB5 := Lib.hid (bNext HB4.out hb)
    have HW5 := Lib.hid (bNext HW4.out hb)
    have HL5 := Lib.hid (ArgsNext HL4.out hb)
    clear hb
    go_wp2_with fail
    refine (canon15_any (goalC { data := #[105, 115] } [b, a]) (some ⟨g4, 0, none⟩) 2 w5 HL5.out).mono ?_
    rintro e v6 ⟨⟨A6, c6, rfl, ha6⟩, hb⟩
    have hbv : Below w0.heap.size w0 v6 := bNext HW5.out hb
    have HA6 := Lib.hid (ha6.keep (w' := v6) (G := Old v6.heap.size) (fun _ _ => rfl) (fun _ h => h.2))
    have HRG := Lib.hid (rng_canon (t := goalC { data := #[105, 115] } [b, a]) (by rw [rngT_mk]; simp [rngT.go, HRA.out, HRB.out, inR]))
    clear hb ha6
    obtain ⟨z, hz⟩ : ∃ z, Hid (z = canonT (goalC { data := #[105, 115] } [b, a])) := ⟨_, rfl⟩
    rw [← hz.out] at HA6 HRG ⊢
    go_upto_region 5 with fail
    obtain ⟨w6, hw6⟩ : ∃ X, Hid (X = v6.alloc (.cells #[.int .i64 z.kind, .int .i64 z.n, .string z.name, .slice A6 z.args.length c6] 24)) := ⟨_, rfl⟩
    obtain ⟨g6, hg6⟩ : ∃ q, Hid (q = v6.heap.size) := ⟨_, rfl⟩
    rw [← hw6.out, ← hg6.out]
    have HW6 := Lib.hid (show Below w0.heap.size w0 w6 by rw [hw6.out]; exact bNext hbv (bAlloc _ _))
    have HB6 := Lib.hid (bNext HB0.out HW6.out)
    have hk6 : Blk w6 g6 24 #[.int .i64 z.kind, .int .i64 z.n, .string z.name, .slice A6 z.args.length c6] := by rw [hw6.out, hg6.out]; exact Blk.new _ _ _
    have hbb6 : Below v6.heap.size v6 w6 := by rw [hw6.out]; exact bAlloc _ _
    clear hbv hw6
    have HK6 := Lib.hid (show Blk w6 g6 24 #[.int .i64 z.kind, .int .i64 z.n, .string z.name, .slice A6 z.args.length c6] from hk6)
    have HZA := Lib.hid (ArgsNext HA6.out hbb6)
    clear hk6 hbb6
    have k0 := HK6.out.cell 0
    have k1 := HK6.out.cell 1
    have k2 := HK6.out.cell 2
    have k3 := HK6.out.cell 3
    have kl := HK6.out.lt
    simp at k0 k1 k2 k3
    go_wp2_with fail
    refine (zero17_any z A6 c6 w6).mono ?_
    rintro e w7 ⟨rfl, hb⟩
    have HB7 := Lib.hid (bNext HB6.out hb)
    have HW7 := Lib.hid (bNext HW6.out hb)
    have HZ7 := Lib.hid (ArgsNext HZA.out hb)
    have HK7 := Lib.hid (BlkNext HK6.out hb)
    clear hb k0 k1 k2 k3 kl
    cases hzb : zeroB z
    · have hval : validT (goalC { data := #[105, 115] } [b, a]) = true := by
        cases hv : validT (goalC { data := #[105, 115] } [b, a])
        · rw [hz.out, canonT_bad hv, zeroB_zero] at hzb; cases hzb
        · rfl
      obtain ⟨x', hcan, hcal, hvr⟩ := is_val (x := b) (t := a) HVA.out.2 hval
      clear hzb hval
      obtain rfl : z = goalC { data := #[105, 115] } [x', a] := hz.out.trans hcan
      have HCAL := Lib.hid hcal
      have HVR := Lib.hid hvr
      clear hcan hcal hvr hz
      have k0 := HK7.out.cell 0
      have k1 := HK7.out.cell 1
      have k2 := HK7.out.cell 2
      have k3 := HK7.out.cell 3
      have kl := HK7.out.lt
      simp at k0 k1 k2 k3
      go_wp2_with fail
      refine (call18_any (goalC { data := #[105, 115] } [x', a]) A6 c6 w7 HRG.out HZ7.out).mono ?_
      rw [HCAL.out]
      rintro e v8 ⟨⟨vv, A8, c8, rfl, ⟨Ao, co, rfl, ho⟩, -⟩, hb⟩
      have hbv : Below w0.heap.size w0 v8 := bNext HW7.out hb
      have HO8 := Lib.hid (ho.keep (w' := v8) (G := Old v8.heap.size) (fun _ _ => rfl) (fun _ h => h.2))
      have HZ8 := Lib.hid (ArgsNext HZ7.out hb)
      have HK8 := Lib.hid (BlkNext HK7.out hb)
      clear hb ho k0 k1 k2 k3 kl
      go_upto_region 8 with fail
      obtain ⟨w8, hw8⟩ : ∃ X, Hid (X = v8.alloc (.cells #[.int .i64 zeroT.kind, .int .i64 zeroT.n, .string zeroT.name, .slice A8 zeroT.args.length c8] 24)) := ⟨_, rfl⟩
      obtain ⟨g8, hg8⟩ : ∃ q, Hid (q = v8.heap.size) := ⟨_, rfl⟩
      rw [← hw8.out, ← hg8.out]
      have HW8 := Lib.hid (show Below w0.heap.size w0 w8 by rw [hw8.out]; exact bNext hbv (bAlloc _ _))
      have HB8 := Lib.hid (bNext HB0.out HW8.out)
      have hk8 : Blk w8 g8 24 #[.int .i64 zeroT.kind, .int .i64 zeroT.n, .string zeroT.name, .slice A8 zeroT.args.length c8] := by rw [hw8.out, hg8.out]; exact Blk.new _ _ _
      have hbb8 : Below v8.heap.size v8 w8 := by rw [hw8.out]; exact bAlloc _ _
      clear hbv hw8
      have HO9 := Lib.hid (ArgsNext HO8.out hbb8)
      have HZ9 := Lib.hid (ArgsNext HZ8.out hbb8)
      have HK9 := Lib.hid (BlkNext HK8.out hbb8)
      clear hk8 hbb8
      obtain ⟨b6, o6, a', At, ct, rfl, hF6, hx6, hc6, hA6⟩ := HZ9.out.at (i := 1) (by simp [Tm.args])
      obtain rfl : a = a' := by simpa [Tm.args] using hx6
      obtain ⟨bo, oo, e', Ae, ce, rfl, hFo, hxo, hco, hAo⟩ := HO9.out.at (i := 0) (by simp)
      obtain rfl : goalC { data := #[105, 115] } [intC n, a] = e' := by simpa using hxo
      have HAE := Lib.hid hAo
      have HAT := Lib.hid hA6
      have HFB := Lib.hid (show ∀ w', Below w8.heap.size w8 w' → w'.cell? ⟨g6, 3, none⟩ = some (.slice (some ⟨b6, o6, none⟩) 2 c6) ∧ g6 < w'.heap.size ∧
          w'.cell? ⟨b6, o6 + 4, none⟩ = some (.int .i64 a.kind) ∧ w'.cell? ⟨b6, o6 + 4 + 1, none⟩ = some (.int .i64 a.n) ∧ w'.cell? ⟨b6, o6 + 4 + 2, none⟩ = some (.string a.name) ∧ w'.cell? ⟨b6, o6 + 4 + 3, none⟩ = some (.slice At a.args.length ct) ∧ b6 < w'.heap.size ∧
          w'.cell? ⟨bo, oo, none⟩ = some (.int .i64 3) ∧ w'.cell? ⟨bo, oo + 1, none⟩ = some (.int .i64 0) ∧ w'.cell? ⟨bo, oo + 2, none⟩ = some (.string { data := #[105, 115] }) ∧ w'.cell? ⟨bo, oo + 3, none⟩ = some (.slice Ae 2 ce) ∧ bo < w'.heap.size from fun w' hb => by
        have k3 := (BlkNext HK9.out hb).cell 3
        simp at k3
        have hf6 : b6 < w8.heap.size := hF6
        have hfo : bo < w8.heap.size := hFo
        have d := hc6.below hf6 hb
        have f := hco.below hfo hb
        unfold TmCells at d f
        simp only [Nat.zero_mul, Nat.one_mul, Nat.add_zero] at d f
        exact ⟨k3, (BlkNext HK9.out hb).lt, d.1, d.2.1, d.2.2.1, d.2.2.2, Nat.lt_of_lt_of_le hf6 hb.size, f.1, f.2.1, f.2.2.1, f.2.2.2, Nat.lt_of_lt_of_le hfo hb.size⟩)
      clear hF6 hx6 hc6 hA6 hFo hxo hco hAo
      obtain ⟨D, hD⟩ : ∃ X, Hid (X = w8.drew) := ⟨_, rfl⟩
      have hd : Below w8.heap.size w8 D := by rw [hD.out]; exact bDrewN (Below.refl _ _) 1
      refine wp_region_N (fun w' => Below w8.heap.size w8 w') (fun _ => true) (by kernel_rfl) ?_
      rw [← hD.out]
      have hkD : Below w8.heap.size w8 D := hd
      clear hD hd
      refine wpAnyN_take (i := 0) (v := ?v1) rfl (by kernel_rfl) (by kernel_rfl) (by kernel_rfl) (by kernel_rfl) (fun _ _ _ h => h) (Or.inl ⟨by rfl, ?hy1⟩) (by assumption) ?_
      case hy1 => intro w hSw; (try dsimp only at hSw); go_simp; try with_reducible rfl
      simp only [Act.put, List.getElem_toArray, List.getElem_cons_zero, List.setIfInBounds_toArray, List.set_cons_zero, List.set_cons_succ]
      refine wpAnyN_take (i := 1) (v := ?v2) rfl (by kernel_rfl) (by kernel_rfl) (by kernel_rfl) (by kernel_rfl) (fun _ _ _ h => h) (Or.inl ⟨by rfl, ?hy2⟩) (by assumption) ?_
      case hy2 => intro w hSw; (try dsimp only at hSw); go_simp; try with_reducible rfl
      simp only [Act.put, List.getElem_toArray, List.getElem_cons_zero, List.getElem_cons_succ, List.setIfInBounds_toArray, List.set_cons_zero, List.set_cons_succ]
      refine wpAnyN_take (i := 2) (v := ?v3) rfl (by kernel_rfl) (by kernel_rfl) (by kernel_rfl) (by kernel_rfl) (fun _ _ _ h => h) (Or.inl ⟨by rfl, ?hy3⟩) (by assumption) ?_
      case hy3 => intro w hSw; (try dsimp only at hSw); go_simp; try with_reducible rfl
      simp only [Act.put, List.getElem_toArray, List.getElem_cons_zero, List.getElem_cons_succ, List.setIfInBounds_toArray, List.set_cons_zero, List.set_cons_succ]
      refine wpAnyN_take (i := 3) (v := ?v4) rfl (by kernel_rfl) (by kernel_rfl) (by kernel_rfl) (by kernel_rfl) (fun _ _ _ h => h) (Or.inl ⟨by rfl, ?hy4⟩) (by assumption) ?_
      case hy4 => intro w hSw; (try dsimp only at hSw); go_simp; try with_reducible rfl
      simp only [Act.put, List.getElem_toArray, List.getElem_cons_zero, List.getElem_cons_succ, List.setIfInBounds_toArray, List.set_cons_zero, List.set_cons_succ]
      refine wpAnyN_one (i := 4) (by kernel_rfl) rfl (fun K hK => ?_)
      simp only [List.getElem_toArray, List.getElem_cons_zero, List.getElem_cons_succ]
      go_simp
      refine hK _ _ (fun _ => hkD) ?_
      (try simp only [Act.put, List.setIfInBounds_toArray, List.set_cons_zero, List.set_cons_succ])
      refine wpAnyN_take (i := 5) (v := ?v5) rfl (by kernel_rfl) (by kernel_rfl) (by kernel_rfl) (by kernel_rfl) (fun _ _ _ h => h) (Or.inl ⟨by rfl, ?hy5⟩) (by assumption) ?_
      case hy5 => intro w hSw; (try dsimp only at hSw); go_simp; try with_reducible rfl
      simp only [Act.put, List.getElem_toArray, List.getElem_cons_zero, List.getElem_cons_succ, List.setIfInBounds_toArray, List.set_cons_zero, List.set_cons_succ]
      refine wpAnyN_take (i := 6) (v := ?v6) rfl (by kernel_rfl) (by kernel_rfl) (by kernel_rfl) (by kernel_rfl) (fun _ _ _ h => h) (Or.inl ⟨by rfl, ?hy6⟩) (by assumption) ?_
      case hy6 => intro w hSw; (try dsimp only at hSw); go_simp; try with_reducible rfl
      simp only [Act.put, List.getElem_toArray, List.getElem_cons_zero, List.getElem_cons_succ, List.setIfInBounds_toArray, List.set_cons_zero, List.set_cons_succ]
      refine wpAnyN_take (i := 7) (v := ?v7) rfl (by kernel_rfl) (by kernel_rfl) (by kernel_rfl) (by kernel_rfl) (fun _ _ _ h => h) (Or.inl ⟨by rfl, ?hy7⟩) (by assumption) ?_
      case hy7 => intro w hSw; (try dsimp only at hSw); go_simp; try with_reducible rfl
      simp only [Act.put, List.getElem_toArray, List.getElem_cons_zero, List.getElem_cons_succ, List.setIfInBounds_toArray, List.set_cons_zero, List.set_cons_succ]
      refine wpAnyN_take (i := 8) (v := ?v8) rfl (by kernel_rfl) (by kernel_rfl) (by kernel_rfl) (by kernel_rfl) (fun _ _ _ h => h) (Or.inl ⟨by rfl, ?hy8⟩) (by assumption) ?_
      case hy8 => intro w hSw; (try dsimp only at hSw); go_simp; try with_reducible rfl
      simp only [Act.put, List.getElem_toArray, List.getElem_cons_zero, List.getElem_cons_succ, List.setIfInBounds_toArray, List.set_cons_zero, List.set_cons_succ]
      refine wpAnyN_take (i := 9) (v := ?v9) rfl (by kernel_rfl) (by kernel_rfl) (by kernel_rfl) (by kernel_rfl) (fun _ _ _ h => h) (Or.inl ⟨by rfl, ?hy9⟩) (by assumption) ?_
      case hy9 => intro w hSw; (try dsimp only at hSw); go_simp; try with_reducible rfl
      simp only [Act.put, List.getElem_toArray, List.getElem_cons_zero, List.getElem_cons_succ, List.setIfInBounds_toArray, List.set_cons_zero, List.set_cons_succ]
      refine wpAnyN_take (i := 10) (v := ?v10) rfl (by kernel_rfl) (by kernel_rfl) (by kernel_rfl) (by kernel_rfl) (fun _ _ _ h => h) (Or.inl ⟨by rfl, ?hy10⟩) (by assumption) ?_
      case hy10 => intro w hSw; obtain ⟨k3, kl, d0, d1, d2, d3, dl, f0, f1, f2, f3, fl⟩ := HFB.out _ hSw; go_simp; try with_reducible rfl
      simp only [Act.put, List.getElem_toArray, List.getElem_cons_zero, List.getElem_cons_succ, List.setIfInBounds_toArray, List.set_cons_zero, List.set_cons_succ]
      refine wpAnyN_take (i := 11) (v := ?v11) rfl (by kernel_rfl) (by kernel_rfl) (by kernel_rfl) (by kernel_rfl) (fun _ _ _ h => h) (Or.inl ⟨by rfl, ?hy11⟩) (by assumption) ?_
      case hy11 => intro w hSw; (try dsimp only at hSw); go_simp; try with_reducible rfl
      simp only [Act.put, List.getElem_toArray, List.getElem_cons_zero, List.getElem_cons_succ, List.setIfInBounds_toArray, List.set_cons_zero, List.set_cons_succ]
      refine wpAnyN_take (i := 13) (v := ?v12) rfl (by kernel_rfl) (by kernel_rfl) (by kernel_rfl) (by kernel_rfl) (fun _ _ _ h => h) (Or.inl ⟨by rfl, ?hy12⟩) (by assumption) ?_
      case hy12 => intro w hSw; (try dsimp only at hSw); go_simp; try with_reducible rfl
      simp only [Act.put, List.getElem_toArray, List.getElem_cons_zero, List.getElem_cons_succ, List.setIfInBounds_toArray, List.set_cons_zero, List.set_cons_succ]
      refine wpAnyN_take (i := 14) (v := ?v13) rfl (by kernel_rfl) (by kernel_rfl) (by kernel_rfl) (by kernel_rfl) (fun _ _ _ h => h) (Or.inl ⟨by rfl, ?hy13⟩) (by assumption) ?_
      case hy13 => intro w hSw; obtain ⟨k3, kl, d0, d1, d2, d3, dl, f0, f1, f2, f3, fl⟩ := HFB.out _ hSw; go_simp; try with_reducible rfl
      simp only [Act.put, List.getElem_toArray, List.getElem_cons_zero, List.getElem_cons_succ, List.setIfInBounds_toArray, List.set_cons_zero, List.set_cons_succ]
      refine wpAnyN_take (i := 15) (v := ?v14) rfl (by kernel_rfl) (by kernel_rfl) (by kernel_rfl) (by kernel_rfl) (fun _ _ _ h => h) (Or.inl ⟨by rfl, ?hy14⟩) (by assumption) ?_
      case hy14 => intro w hSw; (try dsimp only at hSw); go_simp; try with_reducible rfl
      simp only [Act.put, List.getElem_toArray, List.getElem_cons_zero, List.getElem_cons_succ, List.setIfInBounds_toArray, List.set_cons_zero, List.set_cons_succ]
      refine wpAnyN_take (i := 16) (v := ?v15) rfl (by kernel_rfl) (by kernel_rfl) (by kernel_rfl) (by kernel_rfl) (fun _ _ _ h => h) (Or.inl ⟨by rfl, ?hy15⟩) (by assumption) ?_
      case hy15 => intro w hSw; obtain ⟨k3, kl, d0, d1, d2, d3, dl, f0, f1, f2, f3, fl⟩ := HFB.out _ hSw; go_simp; try with_reducible rfl
      simp only [Act.put, List.getElem_toArray, List.getElem_cons_zero, List.getElem_cons_succ, List.setIfInBounds_toArray, List.set_cons_zero, List.set_cons_succ]
      refine wpAnyN_one (i := 12) (by kernel_rfl) rfl (fun K hK => ?_)
      simp only [List.getElem_toArray, List.getElem_cons_zero, List.getElem_cons_succ]
      go_simp
      refine (number11_any n D).mono ?_
      rintro e d1 ⟨rfl, hb⟩
      have hk1 : Below w8.heap.size w8 d1 := bNext hkD hb
      refine hK _ _ (fun _ => hk1) ?_
      clear hb hkD
      (try simp only [Act.put, List.setIfInBounds_toArray, List.set_cons_zero, List.set_cons_succ])
      refine wpAnyN_one (i := 17) (by kernel_rfl) rfl (fun K hK => ?_)
      simp only [List.getElem_toArray, List.getElem_cons_zero, List.getElem_cons_succ]
      go_simp
      obtain ⟨d2, hw2⟩ : ∃ X, Hid (X = d1.alloc (.cells #[.int .i64 (intC n).kind, .int .i64 (intC n).n, .string (intC n).name, .slice none (intC n).args.length 0, .int .i64 a.kind, .int .i64 a.n, .string a.name, .slice At a.args.length ct] 24)) := ⟨_, rfl⟩
      obtain ⟨g9, hg9⟩ : ∃ q, Hid (q = d1.heap.size) := ⟨_, rfl⟩
      rw [← hw2.out, ← hg9.out]
      have hb : Below d1.heap.size d1 d2 := by rw [hw2.out]; exact bAlloc _ _
      have hk2 : Below w8.heap.size w8 d2 := bNext hk1 hb
      have HL2 := Lib.hid (show ArgsAt d2 (Old d2.heap.size) (some ⟨g9, 0, none⟩) [intC n, a] by
        rw [hw2.out, hg9.out]
        exact args_two (F := Old d1.heap.size) (x := intC n) (y := a) (A := none) (B := At) (c := 0) (d := ct) (.nil _) (HAT.out.keep (fun b hb => hk1.block b hb) (fun b hb => Nat.lt_of_lt_of_le hb hk1.size)) (fun b hb => ⟨hb, by have : b < d1.heap.size := hb; simp; omega⟩) (by simp))
      refine hK _ _ (fun _ => hk2) ?_
      clear hb hw2
      (try simp only [Act.put, List.setIfInBounds_toArray, List.set_cons_zero, List.set_cons_succ])
      refine wpAnyN_one (i := 18) (by kernel_rfl) rfl (fun K hK => ?_)
      simp only [List.getElem_toArray, List.getElem_cons_zero, List.getElem_cons_succ]
      go_simp
      refine (goal16_any _ [intC n, a] (some ⟨g9, 0, none⟩) 2 d2).mono ?_
      rintro e d3 ⟨rfl, hb⟩
      have hk3 : Below w8.heap.size w8 d3 := bNext hk2 hb
      have HL3 := Lib.hid (ArgsNext HL2.out hb)
      refine hK _ _ (fun _ => hk3) ?_
      clear hb
      (try simp only [Act.put, List.setIfInBounds_toArray, List.set_cons_zero, List.set_cons_succ])
      refine wpAnyN_one (i := 19) (by kernel_rfl) rfl (fun K hK => ?_)
      simp only [List.getElem_toArray, List.getElem_cons_zero, List.getElem_cons_succ]
      go_simp
      refine (same12_any (goalC { data := #[105, 115] } [intC n, a]) (goalC { data := #[105, 115] } [intC n, a]) Ae ce (some ⟨g9, 0, none⟩) 2 d3 (HAE.out.keep (w' := d3) (G := Old d3.heap.size) (fun b hb => hk3.block b hb) (fun b hb => Nat.lt_of_lt_of_le hb hk3.size)) HL3.out).mono ?_
      rw [sameT_refl HVR.out]
      rintro e d4 ⟨rfl, hb⟩
      have hk4 : Below w8.heap.size w8 d4 := bNext hk3 hb
      refine hK _ _ (fun _ => hk4) ?_
      clear hb
      (try simp only [Act.put, List.setIfInBounds_toArray, List.set_cons_zero, List.set_cons_succ])
      refine wpAnyN_take (i := 20) (v := ?v16) rfl (by kernel_rfl) (by kernel_rfl) (by kernel_rfl) (by kernel_rfl) (fun _ _ _ h => h) (Or.inl ⟨by rfl, ?hy16⟩) (by assumption) ?_
      case hy16 => intro w hSw; (try dsimp only at hSw); go_simp; try with_reducible rfl
      simp only [Act.put, List.getElem_toArray, List.getElem_cons_zero, List.getElem_cons_succ, List.setIfInBounds_toArray, List.set_cons_zero, List.set_cons_succ]
      refine wpAnyN_take (i := 21) (v := ?v17) rfl (by kernel_rfl) (by kernel_rfl) (by kernel_rfl) (by kernel_rfl) (fun _ _ _ h => h) (Or.inl ⟨by rfl, ?hy17⟩) (by assumption) ?_
      case hy17 => intro w hSw; (try dsimp only at hSw); go_simp; try with_reducible rfl
      simp only [Act.put, List.getElem_toArray, List.getElem_cons_zero, List.getElem_cons_succ, List.setIfInBounds_toArray, List.set_cons_zero, List.set_cons_succ]
      refine wpAnyN_one (i := 22) (by kernel_rfl) rfl (fun K hK => ?_)
      simp only [List.getElem_toArray, List.getElem_cons_zero, List.getElem_cons_succ]
      go_simp
      refine (example8_any d4).mono ?_
      rintro e d5 ⟨rfl, hb⟩
      have hk5 : Below w8.heap.size w8 d5 := bNext hk4 hb
      refine hK _ _ (fun _ => hk5) ?_
      clear hb
      (try simp only [Act.put, List.setIfInBounds_toArray, List.set_cons_zero, List.set_cons_succ])
      refine wpAnyN_take (i := 23) (v := ?v18) rfl (by kernel_rfl) (by kernel_rfl) (by kernel_rfl) (by kernel_rfl) (fun _ _ _ h => h) (Or.inl ⟨by rfl, ?hy18⟩) (by assumption) ?_
      case hy18 => intro w hSw; (try dsimp only at hSw); go_simp; try with_reducible rfl
      simp only [Act.put, List.getElem_toArray, List.getElem_cons_zero, List.getElem_cons_succ, List.setIfInBounds_toArray, List.set_cons_zero, List.set_cons_succ]
      refine wpAnyN_take (i := 24) (v := ?v19) rfl (by kernel_rfl) (by kernel_rfl) (by kernel_rfl) (by kernel_rfl) (fun _ _ _ h => h) (Or.inl ⟨by rfl, ?hy19⟩) (by assumption) ?_
      case hy19 => intro w hSw; (try dsimp only at hSw); go_simp; try with_reducible rfl
      simp only [Act.put, List.getElem_toArray, List.getElem_cons_zero, List.getElem_cons_succ, List.setIfInBounds_toArray, List.set_cons_zero, List.set_cons_succ]
      refine wpAnyN_done (by kernel_rfl) ?_ _
      have HBZ := Lib.hid (bNext HB8.out hk5)
      clear hk1 hk2 hk3 hk4 hk5
      go_wp2_with fail
      go_ret
      exact ⟨rfl, HBZ.out⟩
    · clear hzb
      go_wp2_with fail
      refine (example8_any w7).mono ?_
      rintro e wz ⟨rfl, hb⟩
      have HBZ := Lib.hid (bNext HB7.out hb)
      clear hb
      go_wp2_with fail
      go_ret
      exact ⟨rfl, HBZ.out⟩
  · have q1 : (ea == 0) = false := by simpa using hea
    have q2 : (ea != 0) = true := by simpa using hea
    clear hea
    obtain ⟨e0, e1, e2, e3, el, b0, b1, b2, b3, bl⟩ := HFA.out _ HW1.out
    go_wp2_with fail
    obtain ⟨w4, hw4⟩ : ∃ X, Hid (X = w1.alloc (.cells #[.int .i64 b.kind, .int .i64 b.n, .string b.name, .slice Ab b.args.length cb, .int .i64 a.kind, .int .i64 a.n, .string a.name, .slice Aa a.args.length ca] 24)) := ⟨_, rfl⟩
    obtain ⟨g4, hg4⟩ : ∃ q, Hid (q = w1.heap.size) := ⟨_, rfl⟩
    rw [← hw4.out, ← hg4.out]
    have hb : Below w1.heap.size w1 w4 := by rw [hw4.out]; exact bAlloc _ _
    have HB4 := Lib.hid (bNext HB1.out hb)
    have HW4 := Lib.hid (bNext HW1.out hb)
    have HL4 := Lib.hid (show ArgsAt w4 (Old w4.heap.size) (some ⟨g4, 0, none⟩) [b, a] by
      rw [hw4.out, hg4.out]
      exact args_two (F := Old w1.heap.size) (x := b) (y := a) (A := Ab) (B := Aa) (c := cb) (d := ca) (ArgsNext HBA.out HB1.out) (ArgsNext HA.out HB1.out) (fun b hb => ⟨hb, by have : b < w1.heap.size := hb; simp; omega⟩) (by simp))
    clear hb hw4
    clear e0 e1 e2 e3 el b0 b1 b2 b3 bl
    refine (goal16_any _ [b, a] (some ⟨g4, 0, none⟩) 2 w4).mono ?_
    rintro e w5 ⟨rfl, hb⟩
    have HB5 := Lib.hid (bNext HB4.out hb)
    have HW5 := Lib.hid (bNext HW4.out hb)
    have HL5 := Lib.hid (ArgsNext HL4.out hb)
    clear hb
    go_wp2_with fail
    refine (canon15_any (goalC { data := #[105, 115] } [b, a]) (some ⟨g4, 0, none⟩) 2 w5 HL5.out).mono ?_
    rintro e v6 ⟨⟨A6, c6, rfl, ha6⟩, hb⟩
    have hbv : Below w0.heap.size w0 v6 := bNext HW5.out hb
    have HA6 := Lib.hid (ha6.keep (w' := v6) (G := Old v6.heap.size) (fun _ _ => rfl) (fun _ h => h.2))
    have HRG := Lib.hid (rng_canon (t := goalC { data := #[105, 115] } [b, a]) (by rw [rngT_mk]; simp [rngT.go, HRA.out, HRB.out, inR]))
    clear hb ha6
    obtain ⟨z, hz⟩ : ∃ z, Hid (z = canonT (goalC { data := #[105, 115] } [b, a])) := ⟨_, rfl⟩
    rw [← hz.out] at HA6 HRG ⊢
    go_upto_region 5 with fail
    obtain ⟨w6, hw6⟩ : ∃ X, Hid (X = v6.alloc (.cells #[.int .i64 z.kind, .int .i64 z.n, .string z.name, .slice A6 z.args.length c6] 24)) := ⟨_, rfl⟩
    obtain ⟨g6, hg6⟩ : ∃ q, Hid (q = v6.heap.size) := ⟨_, rfl⟩
    rw [← hw6.out, ← hg6.out]
    have HW6 := Lib.hid (show Below w0.heap.size w0 w6 by rw [hw6.out]; exact bNext hbv (bAlloc _ _))
    have HB6 := Lib.hid (bNext HB0.out HW6.out)
    have hk6 : Blk w6 g6 24 #[.int .i64 z.kind, .int .i64 z.n, .string z.name, .slice A6 z.args.length c6] := by rw [hw6.out, hg6.out]; exact Blk.new _ _ _
    have hbb6 : Below v6.heap.size v6 w6 := by rw [hw6.out]; exact bAlloc _ _
    clear hbv hw6
    have HK6 := Lib.hid (show Blk w6 g6 24 #[.int .i64 z.kind, .int .i64 z.n, .string z.name, .slice A6 z.args.length c6] from hk6)
    have HZA := Lib.hid (ArgsNext HA6.out hbb6)
    clear hk6 hbb6
    have k0 := HK6.out.cell 0
    have k1 := HK6.out.cell 1
    have k2 := HK6.out.cell 2
    have k3 := HK6.out.cell 3
    have kl := HK6.out.lt
    simp at k0 k1 k2 k3
    go_wp2_with fail
    refine (zero17_any z A6 c6 w6).mono ?_
    rintro e w7 ⟨rfl, hb⟩
    have HB7 := Lib.hid (bNext HB6.out hb)
    have HW7 := Lib.hid (bNext HW6.out hb)
    have HZ7 := Lib.hid (ArgsNext HZA.out hb)
    have HK7 := Lib.hid (BlkNext HK6.out hb)
    clear hb k0 k1 k2 k3 kl
    cases hzb : zeroB z
    · clear hzb
      go_wp2_with fail
      refine (example8_any w7).mono ?_
      rintro e wz ⟨rfl, hb⟩
      have HBZ := Lib.hid (bNext HB7.out hb)
      clear hb
      go_wp2_with fail
      go_ret
      exact ⟨rfl, HBZ.out⟩
    · clear hzb
      go_wp2_with fail
      refine (example8_any w7).mono ?_
      rintro e wz ⟨rfl, hb⟩
      have HBZ := Lib.hid (bNext HB7.out hb)
      clear hb
      go_wp2_with fail
      go_ret
      exact ⟨rfl, HBZ.out⟩
end Go.Proofs.Ytcagaaacfcpoeaa
