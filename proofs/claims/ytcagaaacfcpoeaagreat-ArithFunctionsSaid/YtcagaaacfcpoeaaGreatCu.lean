/-
  Walks: the examples of the law.
-/
import Derived.Test.YtcagaaacfcpoeaaGreatCt
namespace Go.Proofs.YtcagaaacfcpoeaaGreat
open Go.RowKit

@[reducible] def exA : Tm := goalC { data := #[43] } [intC 1, goalC { data := #[42] } [intC 2, intC 3]]
@[reducible] def exP : Tm := goalC { data := #[94] } [intC 2, intC 10]
@[reducible] def exB : Tm := goalC { data := #[105, 115] } [varC 0, exP]
@[reducible] def exC : Tm := goalC { data := #[47, 47] } [intC 7, intC 0]
@[reducible] def exR : Tm := goalC { data := #[105, 115] } [intC 1024, exP]
theorem exA_val : evT exA = (7, zeroT, 0) := by
  refine evT_ok ?_ ?_
  · simp [validT, cnt, cnt.go, okT, okT.go, nodeB, ByteArray.size]
  · simp [valT, valT.go, knS, namesS, biN, eqS_data, finV, binS, valR, ovf, inR]
theorem exB_ok : validT exB = true := by simp [validT, cnt, cnt.go, okT, okT.go, nodeB, ByteArray.size]
theorem exB_can : canonT exB = exB := by
  unfold canonT
  rw [if_pos exB_ok]
  simp [canT, varsT, varsT.go, posI, mapT, mapT.go, numF]
theorem exP_val : valT exP = .ok 1024 := by
  simp [valT, valT.go, knS, namesS, biN, eqS_data, finV, binS, valR, pw, ovf, inR]
theorem exR_valid : validT exR = true := by simp [validT, cnt, cnt.go, okT, okT.go, nodeB, ByteArray.size]
theorem exB_val : callV exB = ([exR], zeroT, 0) := by
  rw [callV_two (by rw [exB_ok, exB_can, sameT_iff.2 ⟨exB_ok, rfl⟩]; rfl) (by simp [hasS, eqS_data]), callL_is (n := 1024) (by simp [ByteArray.toList_eq]) exP_val]
  simp only [structC, cloneT]
  rw [if_neg (by simp), if_pos exR_valid]
theorem exC_val : evT exC = (0, revC { data := #[122, 101, 114, 111, 95, 100, 105, 118, 105, 115, 111, 114] }, 8) := by
  refine evT_err ?_ ?_
  · simp [validT, cnt, cnt.go, okT, okT.go, nodeB, ByteArray.size]
  · simp [valT, valT.go, knS, namesS, biN, eqS_data, finV, binS, valR, quo, evalC, namedC, raiseC, atomC, cloneT, structC, validT, cnt, cnt.go, okT, okT.go, nodeB, ByteArray.size]
theorem exA_rng : rngT exA = true := by simp [rngT, rngT.go]
theorem exB_rng : rngT exB = true := by simp [rngT, rngT.go]
theorem exC_rng : rngT exC = true := by simp [rngT, rngT.go]
theorem exR_ok : sameT exR exR = true := sameT_iff.2 ⟨exR_valid, rfl⟩
theorem exC_ok : ∀ b, b = revC { data := #[122, 101, 114, 111, 95, 100, 105, 118, 105, 115, 111, 114] } → sameT b b = true := fun _b h => sameT_iff.2 ⟨h ▸ validT_clone _, rfl⟩
set_option maxRecDepth 100000 in
set_option maxHeartbeats 4000000 in
theorem example8_any (w : World) : Calls Tryz.prog 9 #[] w fun e w' => e = .returned (.bool true) ∧ Below w.heap.size w w' := by
  have HB0 := Lib.hid (Below.refl w.heap.size w)
  go_enter Tryz.func9, Tryz.ntmps9
  go_wp2_with fail
  refine (number11_any 1 w).mono ?_
  rintro e w1 ⟨rfl, hb⟩
  have HB1 := Lib.hid (bNext HB0.out hb)
  clear hb
  go_wp2_with fail
  refine (number11_any 2 w1).mono ?_
  rintro e w2 ⟨rfl, hb⟩
  have HB2 := Lib.hid (bNext HB1.out hb)
  clear hb
  go_wp2_with fail
  refine (number11_any 3 w2).mono ?_
  rintro e w3 ⟨rfl, hb⟩
  have HB3 := Lib.hid (bNext HB2.out hb)
  clear hb
  go_wp2_with fail
  obtain ⟨w4, hw4⟩ : ∃ X, Hid (X = w3.alloc (.cells #[.int .i64 (intC 2).kind, .int .i64 (intC 2).n, .string (intC 2).name, .slice none (intC 2).args.length 0, .int .i64 (intC 3).kind, .int .i64 (intC 3).n, .string (intC 3).name, .slice none (intC 3).args.length 0] 24)) := ⟨_, rfl⟩
  obtain ⟨g4, hg4⟩ : ∃ q, Hid (q = w3.heap.size) := ⟨_, rfl⟩
  rw [← hw4.out, ← hg4.out]
  have hb : Below w3.heap.size w3 w4 := by rw [hw4.out]; exact bAlloc _ _
  have HB4 := Lib.hid (bNext HB3.out hb)
  have HL4 := Lib.hid (show ArgsAt w4 (Old w4.heap.size) (some ⟨g4, 0, none⟩) [intC 2, intC 3] by
    rw [hw4.out, hg4.out]
    exact args_two (F := Old w3.heap.size) (x := intC 2) (y := intC 3) (A := none) (B := none) (c := 0) (d := 0) (.nil _) (.nil _) (fun b hb => ⟨hb, by have : b < w3.heap.size := hb; simp; omega⟩) (by simp))
  clear hb hw4
  go_wp2_with fail
  refine (goal16_any _ [intC 2, intC 3] (some ⟨g4, 0, none⟩) 2 w4).mono ?_
  rintro e w5 ⟨rfl, hb⟩
  have HB5 := Lib.hid (bNext HB4.out hb)
  have HM5 := Lib.hid (ArgsNext HL4.out hb)
  clear hb
  go_wp2_with fail
  obtain ⟨w6, hw6⟩ : ∃ X, Hid (X = w5.alloc (.cells #[.int .i64 (intC 1).kind, .int .i64 (intC 1).n, .string (intC 1).name, .slice none (intC 1).args.length 0, .int .i64 (goalC { data := #[42] } [intC 2, intC 3]).kind, .int .i64 (goalC { data := #[42] } [intC 2, intC 3]).n, .string (goalC { data := #[42] } [intC 2, intC 3]).name, .slice (some ⟨g4, 0, none⟩) (goalC { data := #[42] } [intC 2, intC 3]).args.length 2] 24)) := ⟨_, rfl⟩
  obtain ⟨g6, hg6⟩ : ∃ q, Hid (q = w5.heap.size) := ⟨_, rfl⟩
  rw [← hw6.out, ← hg6.out]
  have hb : Below w5.heap.size w5 w6 := by rw [hw6.out]; exact bAlloc _ _
  have HB6 := Lib.hid (bNext HB5.out hb)
  have HL6 := Lib.hid (show ArgsAt w6 (Old w6.heap.size) (some ⟨g6, 0, none⟩) [intC 1, goalC { data := #[42] } [intC 2, intC 3]] by
    rw [hw6.out, hg6.out]
    exact args_two (F := Old w5.heap.size) (x := intC 1) (y := goalC { data := #[42] } [intC 2, intC 3]) (A := none) (B := (some ⟨g4, 0, none⟩)) (c := 0) (d := 2) (.nil _) HM5.out (fun b hb => ⟨hb, by have : b < w5.heap.size := hb; simp; omega⟩) (by simp))
  clear hb hw6
  go_wp2_with fail
  refine (goal16_any _ [intC 1, goalC { data := #[42] } [intC 2, intC 3]] (some ⟨g6, 0, none⟩) 2 w6).mono ?_
  rintro e w7 ⟨rfl, hb⟩
  have HB7 := Lib.hid (bNext HB6.out hb)
  have HM7 := Lib.hid (ArgsNext HL6.out hb)
  clear hb
  go_wp2_with fail
  refine (eval6_any exA (some ⟨g6, 0, none⟩) 2 w7 exA_rng HM7.out).mono ?_
  rw [exA_val]
  rintro e w8 ⟨⟨A8, c8, rfl, -⟩, hb⟩
  have HB8 := Lib.hid (bNext HB7.out hb)
  clear hb
  go_upto_region 2 with fail
  obtain ⟨w9, hw9⟩ : ∃ X, Hid (X = w8.alloc (.cells #[.int .i64 zeroT.kind, .int .i64 zeroT.n, .string zeroT.name, .slice A8 zeroT.args.length c8] 24)) := ⟨_, rfl⟩
  obtain ⟨g9, hg9⟩ : ∃ q, Hid (q = w8.heap.size) := ⟨_, rfl⟩
  rw [← hw9.out, ← hg9.out]
  have hb9 : Below w8.heap.size w8 w9 := by rw [hw9.out]; exact bAlloc _ _
  have HB9 := Lib.hid (bNext HB8.out hb9)
  have HK9 := Lib.hid (show Blk w9 g9 24 #[.int .i64 zeroT.kind, .int .i64 zeroT.n, .string zeroT.name, .slice A8 zeroT.args.length c8] by rw [hw9.out, hg9.out]; exact Blk.new _ _ _)
  clear hw9
  clear hb9 HK9
  go_wp2_with fail
  refine (variable24_any 0 w9).mono ?_
  rintro e w10 ⟨rfl, hb⟩
  have HB10 := Lib.hid (bNext HB9.out hb)
  clear hb
  go_wp2_with fail
  refine (number11_any 2 w10).mono ?_
  rintro e w11 ⟨rfl, hb⟩
  have HB11 := Lib.hid (bNext HB10.out hb)
  clear hb
  go_wp2_with fail
  refine (number11_any 10 w11).mono ?_
  rintro e w12 ⟨rfl, hb⟩
  have HB12 := Lib.hid (bNext HB11.out hb)
  clear hb
  go_wp2_with fail
  obtain ⟨w13, hw13⟩ : ∃ X, Hid (X = w12.alloc (.cells #[.int .i64 (intC 2).kind, .int .i64 (intC 2).n, .string (intC 2).name, .slice none (intC 2).args.length 0, .int .i64 (intC 10).kind, .int .i64 (intC 10).n, .string (intC 10).name, .slice none (intC 10).args.length 0] 24)) := ⟨_, rfl⟩
  obtain ⟨g13, hg13⟩ : ∃ q, Hid (q = w12.heap.size) := ⟨_, rfl⟩
  rw [← hw13.out, ← hg13.out]
  have hb : Below w12.heap.size w12 w13 := by rw [hw13.out]; exact bAlloc _ _
  have HB13 := Lib.hid (bNext HB12.out hb)
  have HL13 := Lib.hid (show ArgsAt w13 (Old w13.heap.size) (some ⟨g13, 0, none⟩) [intC 2, intC 10] by
    rw [hw13.out, hg13.out]
    exact args_two (F := Old w12.heap.size) (x := intC 2) (y := intC 10) (A := none) (B := none) (c := 0) (d := 0) (.nil _) (.nil _) (fun b hb => ⟨hb, by have : b < w12.heap.size := hb; simp; omega⟩) (by simp))
  clear hb hw13
  go_wp2_with fail
  refine (goal16_any _ [intC 2, intC 10] (some ⟨g13, 0, none⟩) 2 w13).mono ?_
  rintro e w14 ⟨rfl, hb⟩
  have HB14 := Lib.hid (bNext HB13.out hb)
  have HM14 := Lib.hid (ArgsNext HL13.out hb)
  clear hb
  go_wp2_with fail
  obtain ⟨w15, hw15⟩ : ∃ X, Hid (X = w14.alloc (.cells #[.int .i64 (varC 0).kind, .int .i64 (varC 0).n, .string (varC 0).name, .slice none (varC 0).args.length 0, .int .i64 exP.kind, .int .i64 exP.n, .string exP.name, .slice (some ⟨g13, 0, none⟩) exP.args.length 2] 24)) := ⟨_, rfl⟩
  obtain ⟨g15, hg15⟩ : ∃ q, Hid (q = w14.heap.size) := ⟨_, rfl⟩
  rw [← hw15.out, ← hg15.out]
  have hb : Below w14.heap.size w14 w15 := by rw [hw15.out]; exact bAlloc _ _
  have HB15 := Lib.hid (bNext HB14.out hb)
  have HL15 := Lib.hid (show ArgsAt w15 (Old w15.heap.size) (some ⟨g15, 0, none⟩) [varC 0, exP] by
    rw [hw15.out, hg15.out]
    exact args_two (F := Old w14.heap.size) (x := varC 0) (y := exP) (A := none) (B := (some ⟨g13, 0, none⟩)) (c := 0) (d := 2) (.nil _) HM14.out (fun b hb => ⟨hb, by have : b < w14.heap.size := hb; simp; omega⟩) (by simp))
  clear hb hw15
  go_wp2_with fail
  refine (goal16_any _ [varC 0, exP] (some ⟨g15, 0, none⟩) 2 w15).mono ?_
  rintro e w16 ⟨rfl, hb⟩
  have HB16 := Lib.hid (bNext HB15.out hb)
  have HM16 := Lib.hid (ArgsNext HL15.out hb)
  clear hb
  go_wp2_with fail
  refine (call18_any exB (some ⟨g15, 0, none⟩) 2 w16 exB_rng HM16.out).mono ?_
  rw [exB_val]
  rintro e w17 ⟨⟨v17, A17, c17, rfl, ⟨Ao, co, rfl, ho⟩, -⟩, hb⟩
  have HB17 := Lib.hid (bNext HB16.out hb)
  have HO17 := Lib.hid (ho.keep (w' := w17) (G := Old w17.heap.size) (fun _ _ => rfl) (fun _ h => h.2))
  clear hb ho
  go_upto_region 3 with fail
  obtain ⟨w18, hw18⟩ : ∃ X, Hid (X = w17.alloc (.cells #[.int .i64 zeroT.kind, .int .i64 zeroT.n, .string zeroT.name, .slice A17 zeroT.args.length c17] 24)) := ⟨_, rfl⟩
  obtain ⟨g18, hg18⟩ : ∃ q, Hid (q = w17.heap.size) := ⟨_, rfl⟩
  rw [← hw18.out, ← hg18.out]
  have hb18 : Below w17.heap.size w17 w18 := by rw [hw18.out]; exact bAlloc _ _
  have HB18 := Lib.hid (bNext HB17.out hb18)
  have HK18 := Lib.hid (show Blk w18 g18 24 #[.int .i64 zeroT.kind, .int .i64 zeroT.n, .string zeroT.name, .slice A17 zeroT.args.length c17] by rw [hw18.out, hg18.out]; exact Blk.new _ _ _)
  clear hw18
  have HO18 := Lib.hid (ArgsNext HO17.out hb18)
  clear hb18 HK18
  go_wp2_with fail
  refine (number11_any 7 w18).mono ?_
  rintro e w19 ⟨rfl, hb⟩
  have HB19 := Lib.hid (bNext HB18.out hb)
  have HO19 := Lib.hid (ArgsNext HO18.out hb)
  clear hb
  go_wp2_with fail
  refine (number11_any 0 w19).mono ?_
  rintro e w20 ⟨rfl, hb⟩
  have HB20 := Lib.hid (bNext HB19.out hb)
  have HO20 := Lib.hid (ArgsNext HO19.out hb)
  clear hb
  go_wp2_with fail
  obtain ⟨w21, hw21⟩ : ∃ X, Hid (X = w20.alloc (.cells #[.int .i64 (intC 7).kind, .int .i64 (intC 7).n, .string (intC 7).name, .slice none (intC 7).args.length 0, .int .i64 (intC 0).kind, .int .i64 (intC 0).n, .string (intC 0).name, .slice none (intC 0).args.length 0] 24)) := ⟨_, rfl⟩
  obtain ⟨g21, hg21⟩ : ∃ q, Hid (q = w20.heap.size) := ⟨_, rfl⟩
  rw [← hw21.out, ← hg21.out]
  have hb : Below w20.heap.size w20 w21 := by rw [hw21.out]; exact bAlloc _ _
  have HB21 := Lib.hid (bNext HB20.out hb)
  have HL21 := Lib.hid (show ArgsAt w21 (Old w21.heap.size) (some ⟨g21, 0, none⟩) [intC 7, intC 0] by
    rw [hw21.out, hg21.out]
    exact args_two (F := Old w20.heap.size) (x := intC 7) (y := intC 0) (A := none) (B := none) (c := 0) (d := 0) (.nil _) (.nil _) (fun b hb => ⟨hb, by have : b < w20.heap.size := hb; simp; omega⟩) (by simp))
  have HO21 := Lib.hid (ArgsNext HO20.out hb)
  clear hb hw21
  go_wp2_with fail
  refine (goal16_any _ [intC 7, intC 0] (some ⟨g21, 0, none⟩) 2 w21).mono ?_
  rintro e w22 ⟨rfl, hb⟩
  have HB22 := Lib.hid (bNext HB21.out hb)
  have HM22 := Lib.hid (ArgsNext HL21.out hb)
  have HO22 := Lib.hid (ArgsNext HO21.out hb)
  clear hb
  go_wp2_with fail
  obtain ⟨z, hz⟩ : ∃ z, Hid (z = revC { data := #[122, 101, 114, 111, 95, 100, 105, 118, 105, 115, 111, 114] }) := ⟨_, rfl⟩
  refine (eval6_any exC (some ⟨g21, 0, none⟩) 2 w22 exC_rng HM22.out).mono ?_
  rw [exC_val, ← hz.out]
  rintro e w23 ⟨⟨A23, c23, rfl, hz23⟩, hb⟩
  have HB23 := Lib.hid (bNext HB22.out hb)
  have HO23 := Lib.hid (ArgsNext HO22.out hb)
  have HZ23 := Lib.hid (hz23.keep (w' := w23) (G := Old w23.heap.size) (fun _ _ => rfl) (fun _ h => h.2))
  clear hb hz23
  go_upto_region 4 with fail
  obtain ⟨w24, hw24⟩ : ∃ X, Hid (X = w23.alloc (.cells #[.int .i64 z.kind, .int .i64 z.n, .string z.name, .slice A23 z.args.length c23] 24)) := ⟨_, rfl⟩
  obtain ⟨g24, hg24⟩ : ∃ q, Hid (q = w23.heap.size) := ⟨_, rfl⟩
  rw [← hw24.out, ← hg24.out]
  have hb24 : Below w23.heap.size w23 w24 := by rw [hw24.out]; exact bAlloc _ _
  have HB24 := Lib.hid (bNext HB23.out hb24)
  have HK24 := Lib.hid (show Blk w24 g24 24 #[.int .i64 z.kind, .int .i64 z.n, .string z.name, .slice A23 z.args.length c23] by rw [hw24.out, hg24.out]; exact Blk.new _ _ _)
  clear hw24
  have HO24 := Lib.hid (ArgsNext HO23.out hb24)
  have HZ24 := Lib.hid (ArgsNext HZ23.out hb24)
  clear hb24
  obtain ⟨bo, oo, x', Ae, ce, rfl, hF, hx, hx4, hAx⟩ := HO24.out.at (i := 0) (by simp)
  obtain rfl : exR = x' := by simpa using hx
  have HAE := Lib.hid hAx
  have HFA := Lib.hid (show ∀ w', Below w24.heap.size w24 w' → w'.cell? ⟨bo, oo, none⟩ = some (.int .i64 3) ∧ w'.cell? ⟨bo, oo + 1, none⟩ = some (.int .i64 0) ∧ w'.cell? ⟨bo, oo + 2, none⟩ = some (.string { data := #[105, 115] }) ∧ w'.cell? ⟨bo, oo + 3, none⟩ = some (.slice Ae 2 ce) ∧ bo < w'.heap.size ∧
      w'.cell? ⟨g24, 0, none⟩ = some (.int .i64 z.kind) ∧ w'.cell? ⟨g24, 1, none⟩ = some (.int .i64 z.n) ∧ w'.cell? ⟨g24, 2, none⟩ = some (.string z.name) ∧ w'.cell? ⟨g24, 3, none⟩ = some (.slice A23 z.args.length c23) ∧ g24 < w'.heap.size from fun w' hb => by
    have k := BlkNext HK24.out hb
    have k0 := k.cell 0
    have k1 := k.cell 1
    have k2 := k.cell 2
    have k3 := k.cell 3
    simp at k0 k1 k2 k3
    have hf : bo < w24.heap.size := hF
    have d := hx4.below hf hb
    unfold TmCells at d
    simp only [Nat.zero_mul, Nat.add_zero] at d
    exact ⟨d.1, d.2.1, d.2.2.1, d.2.2.2, Nat.lt_of_lt_of_le hf hb.size, k0, k1, k2, k3, k.lt⟩)
  clear hF hx hx4 hAx
  obtain ⟨D, hD⟩ : ∃ X, Hid (X = w24.drew) := ⟨_, rfl⟩
  have hd : Below w24.heap.size w24 D := by rw [hD.out]; exact bDrewN (Below.refl _ _) 1
  refine wp_region_N (fun w' => Below w24.heap.size w24 w') (fun _ => true) (by kernel_rfl) ?_
  rw [← hD.out]
  have HBD := Lib.hid hd
  have hkD : Below w24.heap.size w24 D := hd
  clear hD hd
  refine wpAnyN_take (i := 0) (v := ?v1) rfl (by kernel_rfl) (by kernel_rfl) (by kernel_rfl) (by kernel_rfl) (fun _ _ _ h => h) (Or.inl ⟨by rfl, ?hy1⟩) (by assumption) ?_
  case hy1 => intro w hSw; (try dsimp only at hSw); go_simp; try with_reducible rfl
  simp only [Act.put, List.getElem_toArray, List.getElem_cons_zero, List.setIfInBounds_toArray, List.set_cons_zero, List.set_cons_succ]
  refine wpAnyN_take (i := 1) (v := ?v2) rfl (by kernel_rfl) (by kernel_rfl) (by kernel_rfl) (by kernel_rfl) (fun _ _ _ h => h) (Or.inl ⟨by rfl, ?hy2⟩) (by assumption) ?_
  case hy2 => intro w hSw; (try dsimp only at hSw); go_simp; try with_reducible rfl
  simp only [Act.put, List.getElem_toArray, List.getElem_cons_zero, List.getElem_cons_succ, List.setIfInBounds_toArray, List.set_cons_zero, List.set_cons_succ]
  refine wpAnyN_take (i := 2) (v := ?v3) rfl (by kernel_rfl) (by kernel_rfl) (by kernel_rfl) (by kernel_rfl) (fun _ _ _ h => h) (Or.inl ⟨by rfl, ?hy3⟩) (by assumption) ?_
  case hy3 => intro w hSw; (try dsimp only at hSw); go_simp; try with_reducible rfl
  simp only [Act.put, List.getElem_toArray, List.getElem_cons_zero, List.getElem_cons_succ, List.setIfInBounds_toArray, List.set_cons_zero, List.set_cons_succ]
  refine wpAnyN_take (i := 3) (v := ?v4) rfl (by kernel_rfl) (by kernel_rfl) (by kernel_rfl) (by kernel_rfl) (fun _ _ _ h => h) (Or.inl ⟨by rfl, ?hy4⟩) (by assumption) ?_
  case hy4 => intro w hSw; (try dsimp only at hSw); go_simp; try with_reducible rfl
  simp only [Act.put, List.getElem_toArray, List.getElem_cons_zero, List.getElem_cons_succ, List.setIfInBounds_toArray, List.set_cons_zero, List.set_cons_succ]
  refine wpAnyN_take (i := 4) (v := ?v5) rfl (by kernel_rfl) (by kernel_rfl) (by kernel_rfl) (by kernel_rfl) (fun _ _ _ h => h) (Or.inl ⟨by rfl, ?hy5⟩) (by assumption) ?_
  case hy5 => intro w hSw; (try dsimp only at hSw); go_simp; try with_reducible rfl
  simp only [Act.put, List.getElem_toArray, List.getElem_cons_zero, List.getElem_cons_succ, List.setIfInBounds_toArray, List.set_cons_zero, List.set_cons_succ]
  refine wpAnyN_take (i := 5) (v := ?v6) rfl (by kernel_rfl) (by kernel_rfl) (by kernel_rfl) (by kernel_rfl) (fun _ _ _ h => h) (Or.inl ⟨by rfl, ?hy6⟩) (by assumption) ?_
  case hy6 => intro w hSw; (try dsimp only at hSw); go_simp; try with_reducible rfl
  simp only [Act.put, List.getElem_toArray, List.getElem_cons_zero, List.getElem_cons_succ, List.setIfInBounds_toArray, List.set_cons_zero, List.set_cons_succ]
  refine wpAnyN_take (i := 6) (v := ?v7) rfl (by kernel_rfl) (by kernel_rfl) (by kernel_rfl) (by kernel_rfl) (fun _ _ _ h => h) (Or.inl ⟨by rfl, ?hy7⟩) (by assumption) ?_
  case hy7 => intro w hSw; (try dsimp only at hSw); go_simp; try with_reducible rfl
  simp only [Act.put, List.getElem_toArray, List.getElem_cons_zero, List.getElem_cons_succ, List.setIfInBounds_toArray, List.set_cons_zero, List.set_cons_succ]
  refine wpAnyN_take (i := 7) (v := ?v8) rfl (by kernel_rfl) (by kernel_rfl) (by kernel_rfl) (by kernel_rfl) (fun _ _ _ h => h) (Or.inl ⟨by rfl, ?hy8⟩) (by assumption) ?_
  case hy8 => intro w hSw; (try dsimp only at hSw); go_simp; try with_reducible rfl
  simp only [Act.put, List.getElem_toArray, List.getElem_cons_zero, List.getElem_cons_succ, List.setIfInBounds_toArray, List.set_cons_zero, List.set_cons_succ]
  refine wpAnyN_take (i := 8) (v := ?v9) rfl (by kernel_rfl) (by kernel_rfl) (by kernel_rfl) (by kernel_rfl) (fun _ _ _ h => h) (Or.inl ⟨by rfl, ?hy9⟩) (by assumption) ?_
  case hy9 => intro w hSw; (try dsimp only at hSw); go_simp; try with_reducible rfl
  simp only [Act.put, List.getElem_toArray, List.getElem_cons_zero, List.getElem_cons_succ, List.setIfInBounds_toArray, List.set_cons_zero, List.set_cons_succ]
  refine wpAnyN_take (i := 9) (v := ?v10) rfl (by kernel_rfl) (by kernel_rfl) (by kernel_rfl) (by kernel_rfl) (fun _ _ _ h => h) (Or.inl ⟨by rfl, ?hy10⟩) (by assumption) ?_
  case hy10 => intro w hSw; (try dsimp only at hSw); go_simp; try with_reducible rfl
  simp only [Act.put, List.getElem_toArray, List.getElem_cons_zero, List.getElem_cons_succ, List.setIfInBounds_toArray, List.set_cons_zero, List.set_cons_succ]
  refine wpAnyN_take (i := 10) (v := ?v11) rfl (by kernel_rfl) (by kernel_rfl) (by kernel_rfl) (by kernel_rfl) (fun _ _ _ h => h) (Or.inl ⟨by rfl, ?hy11⟩) (by assumption) ?_
  case hy11 => intro w hSw; (try dsimp only at hSw); go_simp; try with_reducible rfl
  simp only [Act.put, List.getElem_toArray, List.getElem_cons_zero, List.getElem_cons_succ, List.setIfInBounds_toArray, List.set_cons_zero, List.set_cons_succ]
  refine wpAnyN_take (i := 11) (v := ?v12) rfl (by kernel_rfl) (by kernel_rfl) (by kernel_rfl) (by kernel_rfl) (fun _ _ _ h => h) (Or.inl ⟨by rfl, ?hy12⟩) (by assumption) ?_
  case hy12 => intro w hSw; (try dsimp only at hSw); go_simp; try with_reducible rfl
  simp only [Act.put, List.getElem_toArray, List.getElem_cons_zero, List.getElem_cons_succ, List.setIfInBounds_toArray, List.set_cons_zero, List.set_cons_succ]
  refine wpAnyN_one (i := 12) (by kernel_rfl) rfl (fun K hK => ?_)
  simp only [List.getElem_toArray, List.getElem_cons_zero, List.getElem_cons_succ]
  go_simp
  refine hK _ _ (fun _ => hkD) ?_
  (try simp only [Act.put, List.setIfInBounds_toArray, List.set_cons_zero, List.set_cons_succ])
  refine wpAnyN_take (i := 13) (v := ?v13) rfl (by kernel_rfl) (by kernel_rfl) (by kernel_rfl) (by kernel_rfl) (fun _ _ _ h => h) (Or.inl ⟨by rfl, ?hy13⟩) (by assumption) ?_
  case hy13 => intro w hSw; (try dsimp only at hSw); go_simp; try with_reducible rfl
  simp only [Act.put, List.getElem_toArray, List.getElem_cons_zero, List.getElem_cons_succ, List.setIfInBounds_toArray, List.set_cons_zero, List.set_cons_succ]
  refine wpAnyN_take (i := 14) (v := ?v14) rfl (by kernel_rfl) (by kernel_rfl) (by kernel_rfl) (by kernel_rfl) (fun _ _ _ h => h) (Or.inl ⟨by rfl, ?hy14⟩) (by assumption) ?_
  case hy14 => intro w hSw; (try dsimp only at hSw); go_simp; try with_reducible rfl
  simp only [Act.put, List.getElem_toArray, List.getElem_cons_zero, List.getElem_cons_succ, List.setIfInBounds_toArray, List.set_cons_zero, List.set_cons_succ]
  refine wpAnyN_take (i := 15) (v := ?v15) rfl (by kernel_rfl) (by kernel_rfl) (by kernel_rfl) (by kernel_rfl) (fun _ _ _ h => h) (Or.inl ⟨by rfl, ?hy15⟩) (by assumption) ?_
  case hy15 => intro w hSw; (try dsimp only at hSw); go_simp; try with_reducible rfl
  simp only [Act.put, List.getElem_toArray, List.getElem_cons_zero, List.getElem_cons_succ, List.setIfInBounds_toArray, List.set_cons_zero, List.set_cons_succ]
  refine wpAnyN_take (i := 16) (v := ?v16) rfl (by kernel_rfl) (by kernel_rfl) (by kernel_rfl) (by kernel_rfl) (fun _ _ _ h => h) (Or.inl ⟨by rfl, ?hy16⟩) (by assumption) ?_
  case hy16 => intro w hSw; (try dsimp only at hSw); go_simp; try with_reducible rfl
  simp only [Act.put, List.getElem_toArray, List.getElem_cons_zero, List.getElem_cons_succ, List.setIfInBounds_toArray, List.set_cons_zero, List.set_cons_succ]
  refine wpAnyN_take (i := 17) (v := ?v17) rfl (by kernel_rfl) (by kernel_rfl) (by kernel_rfl) (by kernel_rfl) (fun _ _ _ h => h) (Or.inl ⟨by rfl, ?hy17⟩) (by assumption) ?_
  case hy17 => intro w hSw; (try dsimp only at hSw); go_simp; try with_reducible rfl
  simp only [Act.put, List.getElem_toArray, List.getElem_cons_zero, List.getElem_cons_succ, List.setIfInBounds_toArray, List.set_cons_zero, List.set_cons_succ]
  refine wpAnyN_take (i := 18) (v := ?v18) rfl (by kernel_rfl) (by kernel_rfl) (by kernel_rfl) (by kernel_rfl) (fun _ _ _ h => h) (Or.inl ⟨by rfl, ?hy18⟩) (by assumption) ?_
  case hy18 => intro w hSw; obtain ⟨x0, x1, x2, x3, xl, k0, k1, k2, k3, kl⟩ := HFA.out _ hSw; go_simp; try with_reducible rfl
  simp only [Act.put, List.getElem_toArray, List.getElem_cons_zero, List.getElem_cons_succ, List.setIfInBounds_toArray, List.set_cons_zero, List.set_cons_succ]
  obtain ⟨w25, hw25⟩ : ∃ X, Hid (X = D) := ⟨_, rfl⟩
  rw [← hw25.out] at hkD ⊢
  have hk25 : Below w24.heap.size w24 w25 := hkD
  clear hkD hw25
  refine wpAnyN_one (i := 19) (by kernel_rfl) rfl (fun K hK => ?_)
  simp only [List.getElem_toArray, List.getElem_cons_zero, List.getElem_cons_succ]
  go_simp
  refine (number11_any 1024 w25).mono ?_
  rintro e w26 ⟨rfl, hb⟩
  have hk26 : Below w24.heap.size w24 w26 := bNext hk25 hb
  refine hK _ _ (fun _ => hk26) ?_
  clear hb
  (try simp only [Act.put, List.setIfInBounds_toArray, List.set_cons_zero, List.set_cons_succ])
  refine wpAnyN_one (i := 20) (by kernel_rfl) rfl (fun K hK => ?_)
  simp only [List.getElem_toArray, List.getElem_cons_zero, List.getElem_cons_succ]
  go_simp
  refine (number11_any 2 w26).mono ?_
  rintro e w27 ⟨rfl, hb⟩
  have hk27 : Below w24.heap.size w24 w27 := bNext hk26 hb
  refine hK _ _ (fun _ => hk27) ?_
  clear hb
  (try simp only [Act.put, List.setIfInBounds_toArray, List.set_cons_zero, List.set_cons_succ])
  refine wpAnyN_one (i := 21) (by kernel_rfl) rfl (fun K hK => ?_)
  simp only [List.getElem_toArray, List.getElem_cons_zero, List.getElem_cons_succ]
  go_simp
  refine (number11_any 10 w27).mono ?_
  rintro e w28 ⟨rfl, hb⟩
  have hk28 : Below w24.heap.size w24 w28 := bNext hk27 hb
  refine hK _ _ (fun _ => hk28) ?_
  clear hb
  (try simp only [Act.put, List.setIfInBounds_toArray, List.set_cons_zero, List.set_cons_succ])
  refine wpAnyN_one (i := 22) (by kernel_rfl) rfl (fun K hK => ?_)
  simp only [List.getElem_toArray, List.getElem_cons_zero, List.getElem_cons_succ]
  go_simp
  obtain ⟨w29, hw29⟩ : ∃ X, Hid (X = w28.alloc (.cells #[.int .i64 (intC 2).kind, .int .i64 (intC 2).n, .string (intC 2).name, .slice none (intC 2).args.length 0, .int .i64 (intC 10).kind, .int .i64 (intC 10).n, .string (intC 10).name, .slice none (intC 10).args.length 0] 24)) := ⟨_, rfl⟩
  obtain ⟨g29, hg29⟩ : ∃ q, Hid (q = w28.heap.size) := ⟨_, rfl⟩
  rw [← hw29.out, ← hg29.out]
  have hb : Below w28.heap.size w28 w29 := by rw [hw29.out]; exact bAlloc _ _
  have hk29 : Below w24.heap.size w24 w29 := bNext hk28 hb
  have HL29 := Lib.hid (show ArgsAt w29 (Old w29.heap.size) (some ⟨g29, 0, none⟩) [intC 2, intC 10] by
    rw [hw29.out, hg29.out]
    exact args_two (F := Old w28.heap.size) (x := intC 2) (y := intC 10) (A := none) (B := none) (c := 0) (d := 0) (.nil _) (.nil _) (fun b hb => ⟨hb, by have : b < w28.heap.size := hb; simp; omega⟩) (by simp))
  refine hK _ _ (fun _ => hk29) ?_
  clear hb hw29
  (try simp only [Act.put, List.setIfInBounds_toArray, List.set_cons_zero, List.set_cons_succ])
  refine wpAnyN_one (i := 23) (by kernel_rfl) rfl (fun K hK => ?_)
  simp only [List.getElem_toArray, List.getElem_cons_zero, List.getElem_cons_succ]
  go_simp
  refine (goal16_any _ [intC 2, intC 10] (some ⟨g29, 0, none⟩) 2 w29).mono ?_
  rintro e w30 ⟨rfl, hb⟩
  have hk30 : Below w24.heap.size w24 w30 := bNext hk29 hb
  have HM30 := Lib.hid (ArgsNext HL29.out hb)
  refine hK _ _ (fun _ => hk30) ?_
  clear hb
  (try simp only [Act.put, List.setIfInBounds_toArray, List.set_cons_zero, List.set_cons_succ])
  refine wpAnyN_one (i := 24) (by kernel_rfl) rfl (fun K hK => ?_)
  simp only [List.getElem_toArray, List.getElem_cons_zero, List.getElem_cons_succ]
  go_simp
  obtain ⟨w31, hw31⟩ : ∃ X, Hid (X = w30.alloc (.cells #[.int .i64 (intC 1024).kind, .int .i64 (intC 1024).n, .string (intC 1024).name, .slice none (intC 1024).args.length 0, .int .i64 exP.kind, .int .i64 exP.n, .string exP.name, .slice (some ⟨g29, 0, none⟩) exP.args.length 2] 24)) := ⟨_, rfl⟩
  obtain ⟨g31, hg31⟩ : ∃ q, Hid (q = w30.heap.size) := ⟨_, rfl⟩
  rw [← hw31.out, ← hg31.out]
  have hb : Below w30.heap.size w30 w31 := by rw [hw31.out]; exact bAlloc _ _
  have hk31 : Below w24.heap.size w24 w31 := bNext hk30 hb
  have HL31 := Lib.hid (show ArgsAt w31 (Old w31.heap.size) (some ⟨g31, 0, none⟩) [intC 1024, exP] by
    rw [hw31.out, hg31.out]
    exact args_two (F := Old w30.heap.size) (x := intC 1024) (y := exP) (A := none) (B := (some ⟨g29, 0, none⟩)) (c := 0) (d := 2) (.nil _) HM30.out (fun b hb => ⟨hb, by have : b < w30.heap.size := hb; simp; omega⟩) (by simp))
  refine hK _ _ (fun _ => hk31) ?_
  clear hb hw31
  (try simp only [Act.put, List.setIfInBounds_toArray, List.set_cons_zero, List.set_cons_succ])
  refine wpAnyN_one (i := 25) (by kernel_rfl) rfl (fun K hK => ?_)
  simp only [List.getElem_toArray, List.getElem_cons_zero, List.getElem_cons_succ]
  go_simp
  refine (goal16_any _ [intC 1024, exP] (some ⟨g31, 0, none⟩) 2 w31).mono ?_
  rintro e w32 ⟨rfl, hb⟩
  have hk32 : Below w24.heap.size w24 w32 := bNext hk31 hb
  have HM32 := Lib.hid (ArgsNext HL31.out hb)
  refine hK _ _ (fun _ => hk32) ?_
  clear hb
  (try simp only [Act.put, List.setIfInBounds_toArray, List.set_cons_zero, List.set_cons_succ])
  refine wpAnyN_one (i := 26) (by kernel_rfl) rfl (fun K hK => ?_)
  simp only [List.getElem_toArray, List.getElem_cons_zero, List.getElem_cons_succ]
  go_simp
  refine (same12_any exR exR Ae ce (some ⟨g31, 0, none⟩) 2 w32 ((HAE.out.keep (w' := w32) (G := Old w32.heap.size) (fun b hb => hk32.block b hb) (fun b hb => Nat.lt_of_lt_of_le hb hk32.size))) HM32.out).mono ?_
  rintro e w33 ⟨rfl, hb⟩
  have hk33 : Below w24.heap.size w24 w33 := bNext hk32 hb
  refine hK _ _ (fun _ => hk33) ?_
  clear hb
  (try simp only [Act.put, List.setIfInBounds_toArray, List.set_cons_zero, List.set_cons_succ])
  rw [exR_ok]
  refine wpAnyN_take (i := 27) (v := ?v19) rfl (by kernel_rfl) (by kernel_rfl) (by kernel_rfl) (by kernel_rfl) (fun _ _ _ h => h) (Or.inl ⟨by rfl, ?hy19⟩) (by assumption) ?_
  case hy19 => intro w hSw; (try dsimp only at hSw); go_simp; try with_reducible rfl
  simp only [Act.put, List.getElem_toArray, List.getElem_cons_zero, List.getElem_cons_succ, List.setIfInBounds_toArray, List.set_cons_zero, List.set_cons_succ]
  refine wpAnyN_take (i := 28) (v := ?v20) rfl (by kernel_rfl) (by kernel_rfl) (by kernel_rfl) (by kernel_rfl) (fun _ _ _ h => h) (Or.inl ⟨by rfl, ?hy20⟩) (by assumption) ?_
  case hy20 => intro w hSw; (try dsimp only at hSw); go_simp; try with_reducible rfl
  simp only [Act.put, List.getElem_toArray, List.getElem_cons_zero, List.getElem_cons_succ, List.setIfInBounds_toArray, List.set_cons_zero, List.set_cons_succ]
  refine wpAnyN_take (i := 29) (v := ?v21) rfl (by kernel_rfl) (by kernel_rfl) (by kernel_rfl) (by kernel_rfl) (fun _ _ _ h => h) (Or.inl ⟨by rfl, ?hy21⟩) (by assumption) ?_
  case hy21 => intro w hSw; (try dsimp only at hSw); go_simp; try with_reducible rfl
  simp only [Act.put, List.getElem_toArray, List.getElem_cons_zero, List.getElem_cons_succ, List.setIfInBounds_toArray, List.set_cons_zero, List.set_cons_succ]
  refine wpAnyN_take (i := 30) (v := ?v22) rfl (by kernel_rfl) (by kernel_rfl) (by kernel_rfl) (by kernel_rfl) (fun _ _ _ h => h) (Or.inl ⟨by rfl, ?hy22⟩) (by assumption) ?_
  case hy22 => intro w hSw; (try dsimp only at hSw); go_simp; try with_reducible rfl
  simp only [Act.put, List.getElem_toArray, List.getElem_cons_zero, List.getElem_cons_succ, List.setIfInBounds_toArray, List.set_cons_zero, List.set_cons_succ]
  refine wpAnyN_take (i := 31) (v := ?v23) rfl (by kernel_rfl) (by kernel_rfl) (by kernel_rfl) (by kernel_rfl) (fun _ _ _ h => h) (Or.inl ⟨by rfl, ?hy23⟩) (by assumption) ?_
  case hy23 => intro w hSw; (try dsimp only at hSw); go_simp; try with_reducible rfl
  simp only [Act.put, List.getElem_toArray, List.getElem_cons_zero, List.getElem_cons_succ, List.setIfInBounds_toArray, List.set_cons_zero, List.set_cons_succ]
  refine wpAnyN_take (i := 32) (v := ?v24) rfl (by kernel_rfl) (by kernel_rfl) (by kernel_rfl) (by kernel_rfl) (fun _ _ _ h => h) (Or.inl ⟨by rfl, ?hy24⟩) (by assumption) ?_
  case hy24 => intro w hSw; (try dsimp only at hSw); go_simp; try with_reducible rfl
  simp only [Act.put, List.getElem_toArray, List.getElem_cons_zero, List.getElem_cons_succ, List.setIfInBounds_toArray, List.set_cons_zero, List.set_cons_succ]
  refine wpAnyN_take (i := 33) (v := ?v25) rfl (by kernel_rfl) (by kernel_rfl) (by kernel_rfl) (by kernel_rfl) (fun _ _ _ h => h) (Or.inl ⟨by rfl, ?hy25⟩) (by assumption) ?_
  case hy25 => intro w hSw; obtain ⟨x0, x1, x2, x3, xl, k0, k1, k2, k3, kl⟩ := HFA.out _ hSw; go_simp; try with_reducible rfl
  simp only [Act.put, List.getElem_toArray, List.getElem_cons_zero, List.getElem_cons_succ, List.setIfInBounds_toArray, List.set_cons_zero, List.set_cons_succ]
  refine wpAnyN_one (i := 34) (by kernel_rfl) rfl (fun K hK => ?_)
  simp only [List.getElem_toArray, List.getElem_cons_zero, List.getElem_cons_succ]
  go_simp
  refine (reval25_any _ w33).mono ?_
  rw [← hz.out]
  rintro e w34 ⟨⟨A34, c34, rfl, ha34⟩, hb⟩
  have hk34 : Below w24.heap.size w24 w34 := bNext hk33 hb
  have HA34 := Lib.hid (ha34.keep (w' := w34) (G := Old w34.heap.size) (fun _ _ => rfl) (fun _ h => h.2))
  refine hK _ _ (fun _ => hk34) ?_
  clear hb ha34
  (try simp only [Act.put, List.setIfInBounds_toArray, List.set_cons_zero, List.set_cons_succ])
  refine wpAnyN_one (i := 35) (by kernel_rfl) rfl (fun K hK => ?_)
  simp only [List.getElem_toArray, List.getElem_cons_zero, List.getElem_cons_succ]
  go_simp
  refine (same12_any z z A23 c23 A34 c34 w34 ((HZ24.out.keep (w' := w34) (G := Old w34.heap.size) (fun b hb => hk34.block b hb) (fun b hb => Nat.lt_of_lt_of_le hb hk34.size))) HA34.out).mono ?_
  rintro e w35 ⟨rfl, hb⟩
  have hk35 : Below w24.heap.size w24 w35 := bNext hk34 hb
  refine hK _ _ (fun _ => hk35) ?_
  clear hb
  (try simp only [Act.put, List.setIfInBounds_toArray, List.set_cons_zero, List.set_cons_succ])
  rw [exC_ok z hz.out]
  refine wpAnyN_take (i := 36) (v := ?v26) rfl (by kernel_rfl) (by kernel_rfl) (by kernel_rfl) (by kernel_rfl) (fun _ _ _ h => h) (Or.inl ⟨by rfl, ?hy26⟩) (by assumption) ?_
  case hy26 => intro w hSw; (try dsimp only at hSw); go_simp; try with_reducible rfl
  simp only [Act.put, List.getElem_toArray, List.getElem_cons_zero, List.getElem_cons_succ, List.setIfInBounds_toArray, List.set_cons_zero, List.set_cons_succ]
  refine wpAnyN_take (i := 37) (v := ?v27) rfl (by kernel_rfl) (by kernel_rfl) (by kernel_rfl) (by kernel_rfl) (fun _ _ _ h => h) (Or.inl ⟨by rfl, ?hy27⟩) (by assumption) ?_
  case hy27 => intro w hSw; (try dsimp only at hSw); go_simp; try with_reducible rfl
  simp only [Act.put, List.getElem_toArray, List.getElem_cons_zero, List.getElem_cons_succ, List.setIfInBounds_toArray, List.set_cons_zero]
  refine wpAnyN_done (by kernel_rfl) ?_ _
  have HBZ := Lib.hid (bNext HB24.out hk35)
  clear hk25 hk26 hk27 hk28 hk29 hk30 hk31 hk32 hk33 hk34 hk35
  go_wp2_with fail
  go_ret
  exact ⟨rfl, HBZ.out⟩
end Go.Proofs.YtcagaaacfcpoeaaGreat
