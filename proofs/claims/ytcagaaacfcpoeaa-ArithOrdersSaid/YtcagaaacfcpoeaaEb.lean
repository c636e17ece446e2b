/-
  Walk: the law of the comparisons.
-/
import Derived.Test.YtcagaaacfcpoeaaEa
namespace Go.Proofs.Ytcagaaacfcpoeaa
open Go.RowKit

theorem cmp_lt (x y : Int) : cmpB ⟨#[60]⟩ x y = decide (x < y) := by simp [cmpB, eqS_data]
theorem cmp_eq (x y : Int) : cmpB ⟨#[61, 58, 61]⟩ x y = decide (x = y) := by simp [cmpB, eqS_data]
theorem cmp_gt (x y : Int) : cmpB ⟨#[62]⟩ x y = decide (y < x) := by simp [cmpB, eqS_data]
theorem cmp_le (x y : Int) : cmpB ⟨#[61, 60]⟩ x y = decide (x ≤ y) := by simp [cmpB, eqS_data]
theorem cmp_ge (x y : Int) : cmpB ⟨#[62, 61]⟩ x y = decide (y ≤ x) := by simp [cmpB, eqS_data]
theorem cmp_ne (x y : Int) : cmpB ⟨#[61, 92, 61]⟩ x y = decide (x ≠ y) := by simp [cmpB, eqS_data]
theorem one_is {s : ByteArray} {a b : Tm} {x y : Int} {v : Bool} (hs : s.size ≤ 100) (hc : cnt a + cnt b < 2000) (ha : validT a = true ∧ valT a = .ok x) (hb : validT b = true ∧ valT b = .ok y) (his : (s.toList == [105, 115]) = false) (hcmp : (lookS cmpT s).isSome = true) (hv : cmpB s x y = v) :
    oneV s a b = (v, true) := by
  obtain ⟨h1, h2⟩ := one_val hs hc ha.1 hb.1 ha.2 hb.2 his hcmp
  unfold oneV
  rw [h1, h2, hv]
  rfl
set_option maxRecDepth 100000 in
set_option maxHeartbeats 4000000 in
theorem law_orders (a : Tm) (Aa : Option Addr) (ca : Nat) (b : Tm) (Ab : Option Addr) (cb : Nat) (w : World) (hra : rngT a = true) (hrb : rngT b = true) (ha : ArgsAt w (Old w.heap.size) Aa a.args) (hb : ArgsAt w (Old w.heap.size) Ab b.args) :
    Calls Try.prog 3 #[a.v Aa ca, b.v Ab cb] w fun e w' => e = .returned (.bool true) ∧ Below w.heap.size w w' := by
  have HA := Lib.hid ha
  have HBA := Lib.hid hb
  have HRA := Lib.hid hra
  have HRB := Lib.hid hrb
  clear ha hb hra hrb
  have HB0 := Lib.hid ((bAlloc w (.cells #[.int .i64 a.kind, .int .i64 a.n, .string a.name, .slice Aa a.args.length ca] 24)).alloc (by simp) (.cells #[.int .i64 b.kind, .int .i64 b.n, .string b.name, .slice Ab b.args.length cb] 24))
  go_enter Try.func3, Try.ntmps3
  go_upto_region 1 with fail
  obtain ⟨w0, hw0⟩ : ∃ X, Hid (X = (w.alloc (.cells #[.int .i64 a.kind, .int .i64 a.n, .string a.name, .slice Aa a.args.length ca] 24)).alloc (.cells #[.int .i64 b.kind, .int .i64 b.n, .string b.name, .slice Ab b.args.length cb] 24)) := ⟨_, rfl⟩
  have HFA := Lib.hid (show ∀ w', Below w0.heap.size w0 w' → w'.cell? ⟨w.heap.size, 0, none⟩ = some (.int .i64 a.kind) ∧ w'.cell? ⟨w.heap.size, 1, none⟩ = some (.int .i64 a.n) ∧ w'.cell? ⟨w.heap.size, 2, none⟩ = some (.string a.name) ∧ w'.cell? ⟨w.heap.size, 3, none⟩ = some (.slice Aa a.args.length ca) ∧ w.heap.size < w'.heap.size ∧
      w'.cell? ⟨w.heap.size + 1, 0, none⟩ = some (.int .i64 b.kind) ∧ w'.cell? ⟨w.heap.size + 1, 1, none⟩ = some (.int .i64 b.n) ∧ w'.cell? ⟨w.heap.size + 1, 2, none⟩ = some (.string b.name) ∧ w'.cell? ⟨w.heap.size + 1, 3, none⟩ = some (.slice Ab b.args.length cb) ∧ w.heap.size + 1 < w'.heap.size from fun w' hb => by
    have k0 : Blk w0 w.heap.size 24 #[.int .i64 a.kind, .int .i64 a.n, .string a.name, .slice Aa a.args.length ca] := by rw [hw0.out]; exact (Blk.new w _ _).alloc _
    have k1 : Blk w0 (w.heap.size + 1) 24 #[.int .i64 b.kind, .int .i64 b.n, .string b.name, .slice Ab b.args.length cb] := by
      rw [hw0.out]
      have h := Blk.new (w.alloc (.cells #[.int .i64 a.kind, .int .i64 a.n, .string a.name, .slice Aa a.args.length ca] 24)) 24 #[.int .i64 b.kind, .int .i64 b.n, .string b.name, .slice Ab b.args.length cb]
      rwa [World.size_alloc] at h
    have k0 := BlkNext k0 hb
    have k1 := BlkNext k1 hb
    have e0 := k0.cell 0
    have e1 := k0.cell 1
    have e2 := k0.cell 2
    have e3 := k0.cell 3
    have b0 := k1.cell 0
    have b1 := k1.cell 1
    have b2 := k1.cell 2
    have b3 := k1.cell 3
    simp at e0 e1 e2 e3 b0 b1 b2 b3
    exact ⟨e0, e1, e2, e3, k0.lt, b0, b1, b2, b3, k1.lt⟩)
  rw [← hw0.out] at HB0 ⊢
  clear hw0
  have HW0 := Lib.hid (Below.refl w0.heap.size w0)
  obtain ⟨e0, e1, e2, e3, el, b0, b1, b2, b3, bl⟩ := HFA.out _ HW0.out
  go_wp2_with fail
  refine (eval6_any a Aa ca w0 HRA.out (ArgsNext HA.out HB0.out)).mono ?_
  rintro e v1 ⟨⟨A1, c1, rfl, -⟩, hb⟩
  have hbv : Below w0.heap.size w0 v1 := bNext HW0.out hb
  clear hb
  obtain ⟨⟨x, ba, ea⟩, hev1⟩ : ∃ r, evT a = r := ⟨_, rfl⟩
  rw [hev1]
  have HEV1 := Lib.hid hev1
  clear hev1
  clear e0 e1 e2 e3 el b0 b1 b2 b3 bl
  go_upto_region 2 with fail
  obtain ⟨w1, hw1⟩ : ∃ X, Hid (X = v1.alloc (.cells #[.int .i64 ba.kind, .int .i64 ba.n, .string ba.name, .slice A1 ba.args.length c1] 24)) := ⟨_, rfl⟩
  obtain ⟨g1, hg1⟩ : ∃ q, Hid (q = v1.heap.size) := ⟨_, rfl⟩
  rw [← hw1.out, ← hg1.out]
  have HW1 := Lib.hid (show Below w0.heap.size w0 w1 by rw [hw1.out]; exact bNext hbv (bAlloc _ _))
  have HB1 := Lib.hid (bNext HB0.out HW1.out)
  clear hbv hw1
  obtain ⟨e0, e1, e2, e3, el, b0, b1, b2, b3, bl⟩ := HFA.out _ HW1.out
  go_wp2_with fail
  refine (eval6_any b Ab cb w1 HRB.out (ArgsNext HBA.out HB1.out)).mono ?_
  rintro e v2 ⟨⟨A2, c2, rfl, -⟩, hb⟩
  have hbv : Below w0.heap.size w0 v2 := bNext HW1.out hb
  clear hb
  obtain ⟨⟨y, bb, eb⟩, hev2⟩ : ∃ r, evT b = r := ⟨_, rfl⟩
  rw [hev2]
  have HEV2 := Lib.hid hev2
  clear hev2
  clear e0 e1 e2 e3 el b0 b1 b2 b3 bl
  go_upto_region 3 with fail
  obtain ⟨w2, hw2⟩ : ∃ X, Hid (X = v2.alloc (.cells #[.int .i64 bb.kind, .int .i64 bb.n, .string bb.name, .slice A2 bb.args.length c2] 24)) := ⟨_, rfl⟩
  obtain ⟨g2, hg2⟩ : ∃ q, Hid (q = v2.heap.size) := ⟨_, rfl⟩
  rw [← hw2.out, ← hg2.out]
  have HW2 := Lib.hid (show Below w0.heap.size w0 w2 by rw [hw2.out]; exact bNext hbv (bAlloc _ _))
  have HB2 := Lib.hid (bNext HB0.out HW2.out)
  clear hbv hw2
  by_cases hea : ea = 0
  · subst hea
    by_cases heb : eb = 0
    · subst heb
      have hva := evT_zero (t := a) (by rw [HEV1.out])
      have hvb := evT_zero (t := b) (by rw [HEV2.out])
      rw [HEV1.out] at hva
      rw [HEV2.out] at hvb
      have HVA := Lib.hid hva
      have HVB := Lib.hid hvb
      clear hva hvb
      obtain ⟨na, hna⟩ : ∃ n, cnt a = n := ⟨_, rfl⟩
      obtain ⟨nb, hnb⟩ : ∃ n, cnt b = n := ⟨_, rfl⟩
      have hla : na ≤ 2000 := by rw [← hna]; exact (validT_ok HVA.out.1).2
      have hlb : nb ≤ 2000 := by rw [← hnb]; exact (validT_ok HVB.out.1).2
      have HNA := Lib.hid (show min (cnt a : Int) 2001 = (na : Int) by omega)
      have HNB := Lib.hid (show min (cnt b : Int) 2001 = (nb : Int) by omega)
      have HCS := Lib.hid (show na + nb < 2000 → cnt a + cnt b < 2000 by omega)
      clear hna hnb
      obtain ⟨D, hD⟩ : ∃ X, Hid (X = w2.drew) := ⟨_, rfl⟩
      have hd : Below w2.heap.size w2 D := by rw [hD.out]; exact bDrewN (Below.refl _ _) 1
      have hS0 : Below w0.heap.size w0 D := bNext HW2.out hd
      refine wp_region_N (fun w' => Below w0.heap.size w0 w') (fun _ => true) (by kernel_rfl) ?_
      rw [← hD.out]
      clear hD hd
      refine wpAnyN_take (i := 0) (v := ?v1) rfl (by kernel_rfl) (by kernel_rfl) (by kernel_rfl) (by kernel_rfl) (fun _ _ _ h => h) (Or.inl ⟨by rfl, ?hy1⟩) (by assumption) ?_
      case hy1 => intro w hSw; (try dsimp only at hSw); go_simp; try with_reducible rfl
      simp only [Act.put, List.getElem_toArray, List.getElem_cons_zero, List.setIfInBounds_toArray, List.set_cons_zero, List.set_cons_succ]
      refine wpAnyN_take (i := 1) (v := ?v2) rfl (by kernel_rfl) (by kernel_rfl) (by kernel_rfl) (by kernel_rfl) (fun _ _ _ h => h) (Or.inl ⟨by rfl, ?hy2⟩) (by assumption) ?_
      case hy2 => intro w hSw; (try dsimp only at hSw); go_simp; try with_reducible rfl
      simp only [Act.put, List.getElem_toArray, List.getElem_cons_zero, List.getElem_cons_succ, List.setIfInBounds_toArray, List.set_cons_zero, List.set_cons_succ]
      refine wpAnyN_take (i := 2) (v := ?v3) rfl (by kernel_rfl) (by kernel_rfl) (by kernel_rfl) (by kernel_rfl) (fun _ _ _ h => h) (Or.inl ⟨by rfl, ?hy3⟩) (by assumption) ?_
      case hy3 => intro w hSw; (try dsimp only at hSw); go_simp; try with_reducible rfl
      simp only [Act.put, List.getElem_toArray, List.getElem_cons_zero, List.getElem_cons_succ, List.setIfInBounds_toArray, List.set_cons_zero, List.set_cons_succ]
      refine wpAnyN_take (i := 3) (v := ?v4) rfl (by kernel_rfl) (by kernel_rfl) (by kernel_rfl) (by kernel_rfl) (fun _ _ _ h => h) (Or.inl ⟨by rfl, ?hy4⟩) (by assumption) ?_
      case hy4 => intro w hSw; (try dsimp only at hSw); go_simp; try with_reducible rfl
      simp only [Act.put, List.getElem_toArray, List.getElem_cons_zero, List.getElem_cons_succ, List.setIfInBounds_toArray, List.set_cons_zero, List.set_cons_succ]
      refine wpAnyN_take (i := 4) (v := ?v5) rfl (by kernel_rfl) (by kernel_rfl) (by kernel_rfl) (by kernel_rfl) (fun _ _ _ h => h) (Or.inl ⟨by rfl, ?hy5⟩) (by assumption) ?_
      case hy5 => intro w hSw; (try dsimp only at hSw); go_simp; try with_reducible rfl
      simp only [Act.put, List.getElem_toArray, List.getElem_cons_zero, List.getElem_cons_succ, List.setIfInBounds_toArray, List.set_cons_zero, List.set_cons_succ]
      refine wpAnyN_take (i := 5) (v := ?v6) rfl (by kernel_rfl) (by kernel_rfl) (by kernel_rfl) (by kernel_rfl) (fun _ _ _ h => h) (Or.inl ⟨by rfl, ?hy6⟩) (by assumption) ?_
      case hy6 => intro w hSw; (try dsimp only at hSw); go_simp; try with_reducible rfl
      simp only [Act.put, List.getElem_toArray, List.getElem_cons_zero, List.getElem_cons_succ, List.setIfInBounds_toArray, List.set_cons_zero, List.set_cons_succ]
      refine wpAnyN_take (i := 6) (v := ?v7) rfl (by kernel_rfl) (by kernel_rfl) (by kernel_rfl) (by kernel_rfl) (fun _ _ _ h => h) (Or.inl ⟨by rfl, ?hy7⟩) (by assumption) ?_
      case hy7 => intro w hSw; (try dsimp only at hSw); go_simp; try with_reducible rfl
      simp only [Act.put, List.getElem_toArray, List.getElem_cons_zero, List.getElem_cons_succ, List.setIfInBounds_toArray, List.set_cons_zero, List.set_cons_succ]
      refine wpAnyN_take (i := 7) (v := ?v8) rfl (by kernel_rfl) (by kernel_rfl) (by kernel_rfl) (by kernel_rfl) (fun _ _ _ h => h) (Or.inl ⟨by rfl, ?hy8⟩) (by assumption) ?_
      case hy8 => intro w hSw; obtain ⟨e0, e1, e2, e3, el, b0, b1, b2, b3, bl⟩ := HFA.out _ hSw; go_simp; try with_reducible rfl
      simp only [Act.put, List.getElem_toArray, List.getElem_cons_zero, List.getElem_cons_succ, List.setIfInBounds_toArray, List.set_cons_zero, List.set_cons_succ]
      refine wpAnyN_take (i := 9) (v := ?v9) rfl (by kernel_rfl) (by kernel_rfl) (by kernel_rfl) (by kernel_rfl) (fun _ _ _ h => h) (Or.inl ⟨by rfl, ?hy9⟩) (by assumption) ?_
      case hy9 => intro w hSw; obtain ⟨e0, e1, e2, e3, el, b0, b1, b2, b3, bl⟩ := HFA.out _ hSw; go_simp; try with_reducible rfl
      simp only [Act.put, List.getElem_toArray, List.getElem_cons_zero, List.getElem_cons_succ, List.setIfInBounds_toArray, List.set_cons_zero, List.set_cons_succ]
      refine wpAnyN_one (i := 8) (by kernel_rfl) rfl (fun K hK => ?_)
      simp only [List.getElem_toArray, List.getElem_cons_zero, List.getElem_cons_succ]
      go_simp
      refine (size_any a Aa ca D (ArgsNext HA.out (bNext HB0.out hS0))).mono ?_
      rw [HNA.out]
      rintro e d1 ⟨rfl, hb⟩
      have hS1 : Below w0.heap.size w0 d1 := bNext hS0 hb
      refine hK _ _ (fun _ => hS1) ?_
      clear hb hS0
      (try simp only [Act.put, List.setIfInBounds_toArray, List.set_cons_zero, List.set_cons_succ])
      refine wpAnyN_one (i := 10) (by kernel_rfl) rfl (fun K hK => ?_)
      simp only [List.getElem_toArray, List.getElem_cons_zero, List.getElem_cons_succ]
      go_simp
      refine (size_any b Ab cb d1 (ArgsNext HBA.out (bNext HB0.out hS1))).mono ?_
      rw [HNB.out]
      rintro e d2 ⟨rfl, hb⟩
      have hS2 : Below w0.heap.size w0 d2 := bNext hS1 hb
      refine hK _ _ (fun _ => hS2) ?_
      clear hb hS1
      (try simp only [Act.put, List.setIfInBounds_toArray, List.set_cons_zero, List.set_cons_succ])
      have WS := Lib.hid (wrap_small (n := (na : Int) + (nb : Int)) (by omega) (by omega))
      refine wpAnyN_one (i := 11) (by kernel_rfl) rfl (fun K hK => ?_)
      simp only [List.getElem_toArray, List.getElem_cons_zero, List.getElem_cons_succ]
      go_simp
      rw [WS.out]
      refine hK _ _ (fun _ => hS2) ?_
      (try simp only [Act.put, List.setIfInBounds_toArray, List.set_cons_zero, List.set_cons_succ])
      by_cases hbig : na + nb < 2000
      · have HCN := Lib.hid (HCS.out hbig)
        have qb : decide (2000 ≤ (na : Int) + (nb : Int)) = false := by simp; omega
        clear hbig
        refine wpAnyN_take (i := 12) (v := ?v10) rfl (by kernel_rfl) (by kernel_rfl) (by kernel_rfl) (by kernel_rfl) (fun _ _ _ h => h) (Or.inl ⟨by rfl, ?hy10⟩) (by assumption) ?_
        case hy10 => intro w hSw; (try dsimp only at hSw); go_simp; try with_reducible rfl
        simp only [Act.put, List.getElem_toArray, List.getElem_cons_zero, List.getElem_cons_succ, List.setIfInBounds_toArray, List.set_cons_zero, List.set_cons_succ]
        refine wpAnyN_take (i := 13) (v := ?v11) rfl (by kernel_rfl) (by kernel_rfl) (by kernel_rfl) (by kernel_rfl) (fun _ _ _ h => h) (Or.inl ⟨by rfl, ?hy11⟩) (by assumption) ?_
        case hy11 => intro w hSw; (try dsimp only at hSw); go_simp; try with_reducible rfl
        simp only [Act.put, List.getElem_toArray, List.getElem_cons_zero, List.getElem_cons_succ, List.setIfInBounds_toArray, List.set_cons_zero, List.set_cons_succ]
        refine wpAnyN_done (by kernel_rfl) ?_ _
        clear qb
        have HW3 := Lib.hid hS2
        have HB3 := Lib.hid (bNext HB0.out hS2)
        obtain ⟨w3, hw3⟩ : ∃ X, Hid (X = d2) := ⟨_, rfl⟩
        rw [← hw3.out] at HW3 HB3 ⊢
        clear hS2 hw3
        rcases Int.lt_trichotomy x y with htri | htri | htri
        · obtain ⟨e0, e1, e2, e3, el, b0, b1, b2, b3, bl⟩ := HFA.out _ HW3.out
          have h1 := Lib.hid (one_is (s := ⟨#[60]⟩) (by simp [ByteArray.size]) HCN.out HVA.out HVB.out (by simp [ByteArray.toList_eq]) (by simp [lookS, cmpT, eqS_data]) (v := true) (by rw [cmp_lt]; simp; omega))
          go_wp2_with fail
          refine (one9_any ⟨#[60]⟩ a b Aa ca Ab cb w3 HRA.out HRB.out (ArgsNext HA.out HB3.out) (ArgsNext HBA.out HB3.out)).mono ?_
          rintro e w4 ⟨he, hb⟩
          rw [h1.out] at he
          obtain rfl : e = .returned (.tuple #[.bool true, .bool true]) := he
          have HW4 := Lib.hid (bNext HW3.out hb)
          have HB4 := Lib.hid (bNext HB3.out hb)
          clear hb h1
          clear e0 e1 e2 e3 el b0 b1 b2 b3 bl
          obtain ⟨e0, e1, e2, e3, el, b0, b1, b2, b3, bl⟩ := HFA.out _ HW4.out
          have h1 := Lib.hid (one_is (s := ⟨#[61, 58, 61]⟩) (by simp [ByteArray.size]) HCN.out HVA.out HVB.out (by simp [ByteArray.toList_eq]) (by simp [lookS, cmpT, eqS_data]) (v := false) (by rw [cmp_eq]; simp; omega))
          go_wp2_with fail
          refine (one9_any ⟨#[61, 58, 61]⟩ a b Aa ca Ab cb w4 HRA.out HRB.out (ArgsNext HA.out HB4.out) (ArgsNext HBA.out HB4.out)).mono ?_
          rintro e w5 ⟨he, hb⟩
          rw [h1.out] at he
          obtain rfl : e = .returned (.tuple #[.bool false, .bool true]) := he
          have HW5 := Lib.hid (bNext HW4.out hb)
          have HB5 := Lib.hid (bNext HB4.out hb)
          clear hb h1
          clear e0 e1 e2 e3 el b0 b1 b2 b3 bl
          obtain ⟨e0, e1, e2, e3, el, b0, b1, b2, b3, bl⟩ := HFA.out _ HW5.out
          have h1 := Lib.hid (one_is (s := ⟨#[62]⟩) (by simp [ByteArray.size]) HCN.out HVA.out HVB.out (by simp [ByteArray.toList_eq]) (by simp [lookS, cmpT, eqS_data]) (v := false) (by rw [cmp_gt]; simp; omega))
          go_wp2_with fail
          refine (one9_any ⟨#[62]⟩ a b Aa ca Ab cb w5 HRA.out HRB.out (ArgsNext HA.out HB5.out) (ArgsNext HBA.out HB5.out)).mono ?_
          rintro e w6 ⟨he, hb⟩
          rw [h1.out] at he
          obtain rfl : e = .returned (.tuple #[.bool false, .bool true]) := he
          have HW6 := Lib.hid (bNext HW5.out hb)
          have HB6 := Lib.hid (bNext HB5.out hb)
          clear hb h1
          clear e0 e1 e2 e3 el b0 b1 b2 b3 bl
          obtain ⟨e0, e1, e2, e3, el, b0, b1, b2, b3, bl⟩ := HFA.out _ HW6.out
          have h1 := Lib.hid (one_is (s := ⟨#[61, 60]⟩) (by simp [ByteArray.size]) HCN.out HVA.out HVB.out (by simp [ByteArray.toList_eq]) (by simp [lookS, cmpT, eqS_data]) (v := true) (by rw [cmp_le]; simp; omega))
          go_wp2_with fail
          refine (one9_any ⟨#[61, 60]⟩ a b Aa ca Ab cb w6 HRA.out HRB.out (ArgsNext HA.out HB6.out) (ArgsNext HBA.out HB6.out)).mono ?_
          rintro e w7 ⟨he, hb⟩
          rw [h1.out] at he
          obtain rfl : e = .returned (.tuple #[.bool true, .bool true]) := he
          have HW7 := Lib.hid (bNext HW6.out hb)
          have HB7 := Lib.hid (bNext HB6.out hb)
          clear hb h1
          clear e0 e1 e2 e3 el b0 b1 b2 b3 bl
          obtain ⟨e0, e1, e2, e3, el, b0, b1, b2, b3, bl⟩ := HFA.out _ HW7.out
          have h1 := Lib.hid (one_is (s := ⟨#[62, 61]⟩) (by simp [ByteArray.size]) HCN.out HVA.out HVB.out (by simp [ByteArray.toList_eq]) (by simp [lookS, cmpT, eqS_data]) (v := false) (by rw [cmp_ge]; simp; omega))
          go_wp2_with fail
          refine (one9_any ⟨#[62, 61]⟩ a b Aa ca Ab cb w7 HRA.out HRB.out (ArgsNext HA.out HB7.out) (ArgsNext HBA.out HB7.out)).mono ?_
          rintro e w8 ⟨he, hb⟩
          rw [h1.out] at he
          obtain rfl : e = .returned (.tuple #[.bool false, .bool true]) := he
          have HW8 := Lib.hid (bNext HW7.out hb)
          have HB8 := Lib.hid (bNext HB7.out hb)
          clear hb h1
          clear e0 e1 e2 e3 el b0 b1 b2 b3 bl
          obtain ⟨e0, e1, e2, e3, el, b0, b1, b2, b3, bl⟩ := HFA.out _ HW8.out
          have h1 := Lib.hid (one_is (s := ⟨#[61, 92, 61]⟩) (by simp [ByteArray.size]) HCN.out HVA.out HVB.out (by simp [ByteArray.toList_eq]) (by simp [lookS, cmpT, eqS_data]) (v := true) (by rw [cmp_ne]; simp; omega))
          go_wp2_with fail
          refine (one9_any ⟨#[61, 92, 61]⟩ a b Aa ca Ab cb w8 HRA.out HRB.out (ArgsNext HA.out HB8.out) (ArgsNext HBA.out HB8.out)).mono ?_
          rintro e w9 ⟨he, hb⟩
          rw [h1.out] at he
          obtain rfl : e = .returned (.tuple #[.bool true, .bool true]) := he
          have HW9 := Lib.hid (bNext HW8.out hb)
          have HB9 := Lib.hid (bNext HB8.out hb)
          clear hb h1
          clear e0 e1 e2 e3 el b0 b1 b2 b3 bl
          have q1 : decide (x < y) = true := by simp; omega
          have q2 : (x == y) = false := by simp; omega
          have q3 : decide (y < x) = false := by simp; omega
          clear htri
          go_wp2_with fail
          refine (example8_any w9).mono ?_
          rintro e wz ⟨rfl, hb⟩
          have HBZ := Lib.hid (bNext HB9.out hb)
          clear hb
          go_wp2_with fail
          go_ret
          exact ⟨rfl, HBZ.out⟩
        · obtain ⟨e0, e1, e2, e3, el, b0, b1, b2, b3, bl⟩ := HFA.out _ HW3.out
          have h1 := Lib.hid (one_is (s := ⟨#[60]⟩) (by simp [ByteArray.size]) HCN.out HVA.out HVB.out (by simp [ByteArray.toList_eq]) (by simp [lookS, cmpT, eqS_data]) (v := false) (by rw [cmp_lt]; simp; omega))
          go_wp2_with fail
          refine (one9_any ⟨#[60]⟩ a b Aa ca Ab cb w3 HRA.out HRB.out (ArgsNext HA.out HB3.out) (ArgsNext HBA.out HB3.out)).mono ?_
          rintro e w4 ⟨he, hb⟩
          rw [h1.out] at he
          obtain rfl : e = .returned (.tuple #[.bool false, .bool true]) := he
          have HW4 := Lib.hid (bNext HW3.out hb)
          have HB4 := Lib.hid (bNext HB3.out hb)
          clear hb h1
          clear e0 e1 e2 e3 el b0 b1 b2 b3 bl
          obtain ⟨e0, e1, e2, e3, el, b0, b1, b2, b3, bl⟩ := HFA.out _ HW4.out
          have h1 := Lib.hid (one_is (s := ⟨#[61, 58, 61]⟩) (by simp [ByteArray.size]) HCN.out HVA.out HVB.out (by simp [ByteArray.toList_eq]) (by simp [lookS, cmpT, eqS_data]) (v := true) (by rw [cmp_eq]; simp; omega))
          go_wp2_with fail
          refine (one9_any ⟨#[61, 58, 61]⟩ a b Aa ca Ab cb w4 HRA.out HRB.out (ArgsNext HA.out HB4.out) (ArgsNext HBA.out HB4.out)).mono ?_
          rintro e w5 ⟨he, hb⟩
          rw [h1.out] at he
          obtain rfl : e = .returned (.tuple #[.bool true, .bool true]) := he
          have HW5 := Lib.hid (bNext HW4.out hb)
          have HB5 := Lib.hid (bNext HB4.out hb)
          clear hb h1
          clear e0 e1 e2 e3 el b0 b1 b2 b3 bl
          obtain ⟨e0, e1, e2, e3, el, b0, b1, b2, b3, bl⟩ := HFA.out _ HW5.out
          have h1 := Lib.hid (one_is (s := ⟨#[62]⟩) (by simp [ByteArray.size]) HCN.out HVA.out HVB.out (by simp [ByteArray.toList_eq]) (by simp [lookS, cmpT, eqS_data]) (v := false) (by rw [cmp_gt]; simp; omega))
          go_wp2_with fail
          refine (one9_any ⟨#[62]⟩ a b Aa ca Ab cb w5 HRA.out HRB.out (ArgsNext HA.out HB5.out) (ArgsNext HBA.out HB5.out)).mono ?_
          rintro e w6 ⟨he, hb⟩
          rw [h1.out] at he
          obtain rfl : e = .returned (.tuple #[.bool false, .bool true]) := he
          have HW6 := Lib.hid (bNext HW5.out hb)
          have HB6 := Lib.hid (bNext HB5.out hb)
          clear hb h1
          clear e0 e1 e2 e3 el b0 b1 b2 b3 bl
          obtain ⟨e0, e1, e2, e3, el, b0, b1, b2, b3, bl⟩ := HFA.out _ HW6.out
          have h1 := Lib.hid (one_is (s := ⟨#[61, 60]⟩) (by simp [ByteArray.size]) HCN.out HVA.out HVB.out (by simp [ByteArray.toList_eq]) (by simp [lookS, cmpT, eqS_data]) (v := true) (by rw [cmp_le]; simp; omega))
          go_wp2_with fail
          refine (one9_any ⟨#[61, 60]⟩ a b Aa ca Ab cb w6 HRA.out HRB.out (ArgsNext HA.out HB6.out) (ArgsNext HBA.out HB6.out)).mono ?_
          rintro e w7 ⟨he, hb⟩
          rw [h1.out] at he
          obtain rfl : e = .returned (.tuple #[.bool true, .bool true]) := he
          have HW7 := Lib.hid (bNext HW6.out hb)
          have HB7 := Lib.hid (bNext HB6.out hb)
          clear hb h1
          clear e0 e1 e2 e3 el b0 b1 b2 b3 bl
          obtain ⟨e0, e1, e2, e3, el, b0, b1, b2, b3, bl⟩ := HFA.out _ HW7.out
          have h1 := Lib.hid (one_is (s := ⟨#[62, 61]⟩) (by simp [ByteArray.size]) HCN.out HVA.out HVB.out (by simp [ByteArray.toList_eq]) (by simp [lookS, cmpT, eqS_data]) (v := true) (by rw [cmp_ge]; simp; omega))
          go_wp2_with fail
          refine (one9_any ⟨#[62, 61]⟩ a b Aa ca Ab cb w7 HRA.out HRB.out (ArgsNext HA.out HB7.out) (ArgsNext HBA.out HB7.out)).mono ?_
          rintro e w8 ⟨he, hb⟩
          rw [h1.out] at he
          obtain rfl : e = .returned (.tuple #[.bool true, .bool true]) := he
          have HW8 := Lib.hid (bNext HW7.out hb)
          have HB8 := Lib.hid (bNext HB7.out hb)
          clear hb h1
          clear e0 e1 e2 e3 el b0 b1 b2 b3 bl
          obtain ⟨e0, e1, e2, e3, el, b0, b1, b2, b3, bl⟩ := HFA.out _ HW8.out
          have h1 := Lib.hid (one_is (s := ⟨#[61, 92, 61]⟩) (by simp [ByteArray.size]) HCN.out HVA.out HVB.out (by simp [ByteArray.toList_eq]) (by simp [lookS, cmpT, eqS_data]) (v := false) (by rw [cmp_ne]; simp; omega))
          go_wp2_with fail
          refine (one9_any ⟨#[61, 92, 61]⟩ a b Aa ca Ab cb w8 HRA.out HRB.out (ArgsNext HA.out HB8.out) (ArgsNext HBA.out HB8.out)).mono ?_
          rintro e w9 ⟨he, hb⟩
          rw [h1.out] at he
          obtain rfl : e = .returned (.tuple #[.bool false, .bool true]) := he
          have HW9 := Lib.hid (bNext HW8.out hb)
          have HB9 := Lib.hid (bNext HB8.out hb)
          clear hb h1
          clear e0 e1 e2 e3 el b0 b1 b2 b3 bl
          have q1 : decide (x < y) = false := by simp; omega
          have q2 : (x == y) = true := by simp; omega
          have q3 : decide (y < x) = false := by simp; omega
          clear htri
          go_wp2_with fail
          refine (example8_any w9).mono ?_
          rintro e wz ⟨rfl, hb⟩
          have HBZ := Lib.hid (bNext HB9.out hb)
          clear hb
          go_wp2_with fail
          go_ret
          exact ⟨rfl, HBZ.out⟩
        · obtain ⟨e0, e1, e2, e3, el, b0, b1, b2, b3, bl⟩ := HFA.out _ HW3.out
          have h1 := Lib.hid (one_is (s := ⟨#[60]⟩) (by simp [ByteArray.size]) HCN.out HVA.out HVB.out (by simp [ByteArray.toList_eq]) (by simp [lookS, cmpT, eqS_data]) (v := false) (by rw [cmp_lt]; simp; omega))
          go_wp2_with fail
          refine (one9_any ⟨#[60]⟩ a b Aa ca Ab cb w3 HRA.out HRB.out (ArgsNext HA.out HB3.out) (ArgsNext HBA.out HB3.out)).mono ?_
          rintro e w4 ⟨he, hb⟩
          rw [h1.out] at he
          obtain rfl : e = .returned (.tuple #[.bool false, .bool true]) := he
          have HW4 := Lib.hid (bNext HW3.out hb)
          have HB4 := Lib.hid (bNext HB3.out hb)
          clear hb h1
          clear e0 e1 e2 e3 el b0 b1 b2 b3 bl
          obtain ⟨e0, e1, e2, e3, el, b0, b1, b2, b3, bl⟩ := HFA.out _ HW4.out
          have h1 := Lib.hid (one_is (s := ⟨#[61, 58, 61]⟩) (by simp [ByteArray.size]) HCN.out HVA.out HVB.out (by simp [ByteArray.toList_eq]) (by simp [lookS, cmpT, eqS_data]) (v := false) (by rw [cmp_eq]; simp; omega))
          go_wp2_with fail
          refine (one9_any ⟨#[61, 58, 61]⟩ a b Aa ca Ab cb w4 HRA.out HRB.out (ArgsNext HA.out HB4.out) (ArgsNext HBA.out HB4.out)).mono ?_
          rintro e w5 ⟨he, hb⟩
          rw [h1.out] at he
          obtain rfl : e = .returned (.tuple #[.bool false, .bool true]) := he
          have HW5 := Lib.hid (bNext HW4.out hb)
          have HB5 := Lib.hid (bNext HB4.out hb)
          clear hb h1
          clear e0 e1 e2 e3 el b0 b1 b2 b3 bl
          obtain ⟨e0, e1, e2, e3, el, b0, b1, b2, b3, bl⟩ := HFA.out _ HW5.out
          have h1 := Lib.hid (one_is (s := ⟨#[62]⟩) (by simp [ByteArray.size]) HCN.out HVA.out HVB.out (by simp [ByteArray.toList_eq]) (by simp [lookS, cmpT, eqS_data]) (v := true) (by rw [cmp_gt]; simp; omega))
          go_wp2_with fail
          refine (one9_any ⟨#[62]⟩ a b Aa ca Ab cb w5 HRA.out HRB.out (ArgsNext HA.out HB5.out) (ArgsNext HBA.out HB5.out)).mono ?_
          rintro e w6 ⟨he, hb⟩
          rw [h1.out] at he
          obtain rfl : e = .returned (.tuple #[.bool true, .bool true]) := he
          have HW6 := Lib.hid (bNext HW5.out hb)
          have HB6 := Lib.hid (bNext HB5.out hb)
          clear hb h1
          clear e0 e1 e2 e3 el b0 b1 b2 b3 bl
          obtain ⟨e0, e1, e2, e3, el, b0, b1, b2, b3, bl⟩ := HFA.out _ HW6.out
          have h1 := Lib.hid (one_is (s := ⟨#[61, 60]⟩) (by simp [ByteArray.size]) HCN.out HVA.out HVB.out (by simp [ByteArray.toList_eq]) (by simp [lookS, cmpT, eqS_data]) (v := false) (by rw [cmp_le]; simp; omega))
          go_wp2_with fail
          refine (one9_any ⟨#[61, 60]⟩ a b Aa ca Ab cb w6 HRA.out HRB.out (ArgsNext HA.out HB6.out) (ArgsNext HBA.out HB6.out)).mono ?_
          rintro e w7 ⟨he, hb⟩
          rw [h1.out] at he
          obtain rfl : e = .returned (.tuple #[.bool false, .bool true]) := he
          have HW7 := Lib.hid (bNext HW6.out hb)
          have HB7 := Lib.hid (bNext HB6.out hb)
          clear hb h1
          clear e0 e1 e2 e3 el b0 b1 b2 b3 bl
          obtain ⟨e0, e1, e2, e3, el, b0, b1, b2, b3, bl⟩ := HFA.out _ HW7.out
          have h1 := Lib.hid (one_is (s := ⟨#[62, 61]⟩) (by simp [ByteArray.size]) HCN.out HVA.out HVB.out (by simp [ByteArray.toList_eq]) (by simp [lookS, cmpT, eqS_data]) (v := true) (by rw [cmp_ge]; simp; omega))
          go_wp2_with fail
          refine (one9_any ⟨#[62, 61]⟩ a b Aa ca Ab cb w7 HRA.out HRB.out (ArgsNext HA.out HB7.out) (ArgsNext HBA.out HB7.out)).mono ?_
          rintro e w8 ⟨he, hb⟩
          rw [h1.out] at he
          obtain rfl : e = .returned (.tuple #[.bool true, .bool true]) := he
          have HW8 := Lib.hid (bNext HW7.out hb)
          have HB8 := Lib.hid (bNext HB7.out hb)
          clear hb h1
          clear e0 e1 e2 e3 el b0 b1 b2 b3 bl
          obtain ⟨e0, e1, e2, e3, el, b0, b1, b2, b3, bl⟩ := HFA.out _ HW8.out
          have h1 := Lib.hid (one_is (s := ⟨#[61, 92, 61]⟩) (by simp [ByteArray.size]) HCN.out HVA.out HVB.out (by simp [ByteArray.toList_eq]) (by simp [lookS, cmpT, eqS_data]) (v := true) (by rw [cmp_ne]; simp; omega))
          go_wp2_with fail
          refine (one9_any ⟨#[61, 92, 61]⟩ a b Aa ca Ab cb w8 HRA.out HRB.out (ArgsNext HA.out HB8.out) (ArgsNext HBA.out HB8.out)).mono ?_
          rintro e w9 ⟨he, hb⟩
          rw [h1.out] at he
          obtain rfl : e = .returned (.tuple #[.bool true, .bool true]) := he
          have HW9 := Lib.hid (bNext HW8.out hb)
          have HB9 := Lib.hid (bNext HB8.out hb)
          clear hb h1
          clear e0 e1 e2 e3 el b0 b1 b2 b3 bl
          have q1 : decide (x < y) = false := by simp; omega
          have q2 : (x == y) = false := by simp; omega
          have q3 : decide (y < x) = true := by simp; omega
          clear htri
          go_wp2_with fail
          refine (example8_any w9).mono ?_
          rintro e wz ⟨rfl, hb⟩
          have HBZ := Lib.hid (bNext HB9.out hb)
          clear hb
          go_wp2_with fail
          go_ret
          exact ⟨rfl, HBZ.out⟩
      · have qb : decide (2000 ≤ (na : Int) + (nb : Int)) = true := by simp; omega
        clear hbig
        refine wpAnyN_take (i := 12) (v := ?v12) rfl (by kernel_rfl) (by kernel_rfl) (by kernel_rfl) (by kernel_rfl) (fun _ _ _ h => h) (Or.inl ⟨by rfl, ?hy12⟩) (by assumption) ?_
        case hy12 => intro w hSw; (try dsimp only at hSw); go_simp; try with_reducible rfl
        simp only [Act.put, List.getElem_toArray, List.getElem_cons_zero, List.getElem_cons_succ, List.setIfInBounds_toArray, List.set_cons_zero, List.set_cons_succ]
        refine wpAnyN_take (i := 13) (v := ?v13) rfl (by kernel_rfl) (by kernel_rfl) (by kernel_rfl) (by kernel_rfl) (fun _ _ _ h => h) (Or.inl ⟨by rfl, ?hy13⟩) (by assumption) ?_
        case hy13 => intro w hSw; (try dsimp only at hSw); go_simp; try with_reducible rfl
        simp only [Act.put, List.getElem_toArray, List.getElem_cons_zero, List.getElem_cons_succ, List.setIfInBounds_toArray, List.set_cons_zero, List.set_cons_succ]
        refine wpAnyN_done (by kernel_rfl) ?_ _
        clear qb
        have HW3 := Lib.hid hS2
        have HB3 := Lib.hid (bNext HB0.out hS2)
        obtain ⟨w3, hw3⟩ : ∃ X, Hid (X = d2) := ⟨_, rfl⟩
        rw [← hw3.out] at HW3 HB3 ⊢
        clear hS2 hw3
        go_wp2_with fail
        refine (example8_any w3).mono ?_
        rintro e wz ⟨rfl, hb⟩
        have HBZ := Lib.hid (bNext HB3.out hb)
        clear hb
        go_wp2_with fail
        go_ret
        exact ⟨rfl, HBZ.out⟩
    · have q1 : (eb != 0) = true := by simpa using heb
      clear heb
      obtain ⟨D, hD⟩ : ∃ X, Hid (X = w2.drew) := ⟨_, rfl⟩
      have hd : Below w2.heap.size w2 D := by rw [hD.out]; exact bDrewN (Below.refl _ _) 1
      have hS0 : Below w0.heap.size w0 D := bNext HW2.out hd
      refine wp_region_N (fun w' => Below w0.heap.size w0 w') (fun _ => true) (by kernel_rfl) ?_
      rw [← hD.out]
      clear hD hd
      refine wpAnyN_take (i := 0) (v := ?v14) rfl (by kernel_rfl) (by kernel_rfl) (by kernel_rfl) (by kernel_rfl) (fun _ _ _ h => h) (Or.inl ⟨by rfl, ?hy14⟩) (by assumption) ?_
      case hy14 => intro w hSw; (try dsimp only at hSw); go_simp; try with_reducible rfl
      simp only [Act.put, List.getElem_toArray, List.getElem_cons_zero, List.setIfInBounds_toArray, List.set_cons_zero, List.set_cons_succ]
      refine wpAnyN_take (i := 1) (v := ?v15) rfl (by kernel_rfl) (by kernel_rfl) (by kernel_rfl) (by kernel_rfl) (fun _ _ _ h => h) (Or.inl ⟨by rfl, ?hy15⟩) (by assumption) ?_
      case hy15 => intro w hSw; (try dsimp only at hSw); go_simp; try with_reducible rfl
      simp only [Act.put, List.getElem_toArray, List.getElem_cons_zero, List.getElem_cons_succ, List.setIfInBounds_toArray, List.set_cons_zero, List.set_cons_succ]
      refine wpAnyN_take (i := 2) (v := ?v16) rfl (by kernel_rfl) (by kernel_rfl) (by kernel_rfl) (by kernel_rfl) (fun _ _ _ h => h) (Or.inl ⟨by rfl, ?hy16⟩) (by assumption) ?_
      case hy16 => intro w hSw; (try dsimp only at hSw); go_simp; try with_reducible rfl
      simp only [Act.put, List.getElem_toArray, List.getElem_cons_zero, List.getElem_cons_succ, List.setIfInBounds_toArray, List.set_cons_zero, List.set_cons_succ]
      refine wpAnyN_take (i := 3) (v := ?v17) rfl (by kernel_rfl) (by kernel_rfl) (by kernel_rfl) (by kernel_rfl) (fun _ _ _ h => h) (Or.inl ⟨by rfl, ?hy17⟩) (by assumption) ?_
      case hy17 => intro w hSw; (try dsimp only at hSw); go_simp; try with_reducible rfl
      simp only [Act.put, List.getElem_toArray, List.getElem_cons_zero, List.getElem_cons_succ, List.setIfInBounds_toArray, List.set_cons_zero, List.set_cons_succ]
      refine wpAnyN_take (i := 4) (v := ?v18) rfl (by kernel_rfl) (by kernel_rfl) (by kernel_rfl) (by kernel_rfl) (fun _ _ _ h => h) (Or.inl ⟨by rfl, ?hy18⟩) (by assumption) ?_
      case hy18 => intro w hSw; (try dsimp only at hSw); go_simp; try with_reducible rfl
      simp only [Act.put, List.getElem_toArray, List.getElem_cons_zero, List.getElem_cons_succ, List.setIfInBounds_toArray, List.set_cons_zero, List.set_cons_succ]
      refine wpAnyN_take (i := 5) (v := ?v19) rfl (by kernel_rfl) (by kernel_rfl) (by kernel_rfl) (by kernel_rfl) (fun _ _ _ h => h) (Or.inl ⟨by rfl, ?hy19⟩) (by assumption) ?_
      case hy19 => intro w hSw; (try dsimp only at hSw); go_simp; try with_reducible rfl
      simp only [Act.put, List.getElem_toArray, List.getElem_cons_zero, List.getElem_cons_succ, List.setIfInBounds_toArray, List.set_cons_zero, List.set_cons_succ]
      refine wpAnyN_take (i := 6) (v := ?v20) rfl (by kernel_rfl) (by kernel_rfl) (by kernel_rfl) (by kernel_rfl) (fun _ _ _ h => h) (Or.inl ⟨by rfl, ?hy20⟩) (by assumption) ?_
      case hy20 => intro w hSw; (try dsimp only at hSw); go_simp; try with_reducible rfl
      simp only [Act.put, List.getElem_toArray, List.getElem_cons_zero, List.getElem_cons_succ, List.setIfInBounds_toArray, List.set_cons_zero, List.set_cons_succ]
      refine wpAnyN_take (i := 7) (v := undef) rfl (by kernel_rfl) (by kernel_rfl) (by kernel_rfl) (by kernel_rfl) (fun _ _ _ h => h) (Or.inr ⟨by rfl, rfl⟩) (by assumption) ?_
      simp only [Act.put, List.getElem_toArray, List.getElem_cons_zero, List.getElem_cons_succ, List.setIfInBounds_toArray, List.set_cons_zero, List.set_cons_succ]
      refine wpAnyN_take (i := 8) (v := undef) rfl (by kernel_rfl) (by kernel_rfl) (by kernel_rfl) (by kernel_rfl) (fun _ _ _ h => h) (Or.inr ⟨by rfl, rfl⟩) (by assumption) ?_
      simp only [Act.put, List.getElem_toArray, List.getElem_cons_zero, List.getElem_cons_succ, List.setIfInBounds_toArray, List.set_cons_zero, List.set_cons_succ]
      refine wpAnyN_take (i := 9) (v := undef) rfl (by kernel_rfl) (by kernel_rfl) (by kernel_rfl) (by kernel_rfl) (fun _ _ _ h => h) (Or.inr ⟨by rfl, rfl⟩) (by assumption) ?_
      simp only [Act.put, List.getElem_toArray, List.getElem_cons_zero, List.getElem_cons_succ, List.setIfInBounds_toArray, List.set_cons_zero, List.set_cons_succ]
      refine wpAnyN_take (i := 10) (v := undef) rfl (by kernel_rfl) (by kernel_rfl) (by kernel_rfl) (by kernel_rfl) (fun _ _ _ h => h) (Or.inr ⟨by rfl, rfl⟩) (by assumption) ?_
      simp only [Act.put, List.getElem_toArray, List.getElem_cons_zero, List.getElem_cons_succ, List.setIfInBounds_toArray, List.set_cons_zero, List.set_cons_succ]
      refine wpAnyN_take (i := 11) (v := undef) rfl (by kernel_rfl) (by kernel_rfl) (by kernel_rfl) (by kernel_rfl) (fun _ _ _ h => h) (Or.inr ⟨by rfl, rfl⟩) (by assumption) ?_
      simp only [Act.put, List.getElem_toArray, List.getElem_cons_zero, List.getElem_cons_succ, List.setIfInBounds_toArray, List.set_cons_zero, List.set_cons_succ]
      refine wpAnyN_take (i := 12) (v := undef) rfl (by kernel_rfl) (by kernel_rfl) (by kernel_rfl) (by kernel_rfl) (fun _ _ _ h => h) (Or.inr ⟨by rfl, rfl⟩) (by assumption) ?_
      simp only [Act.put, List.getElem_toArray, List.getElem_cons_zero, List.getElem_cons_succ, List.setIfInBounds_toArray, List.set_cons_zero, List.set_cons_succ]
      refine wpAnyN_take (i := 13) (v := ?v21) rfl (by kernel_rfl) (by kernel_rfl) (by kernel_rfl) (by kernel_rfl) (fun _ _ _ h => h) (Or.inl ⟨by rfl, ?hy21⟩) (by assumption) ?_
      case hy21 => intro w hSw; (try dsimp only at hSw); go_simp; try with_reducible rfl
      simp only [Act.put, List.getElem_toArray, List.getElem_cons_zero, List.getElem_cons_succ, List.setIfInBounds_toArray, List.set_cons_zero, List.set_cons_succ]
      refine wpAnyN_done (by kernel_rfl) ?_ _
      clear q1
      have HW3 := Lib.hid hS0
      have HB3 := Lib.hid (bNext HB0.out hS0)
      obtain ⟨w3, hw3⟩ : ∃ X, Hid (X = D) := ⟨_, rfl⟩
      rw [← hw3.out] at HW3 HB3 ⊢
      clear hS0 hw3
      go_wp2_with fail
      refine (example8_any w3).mono ?_
      rintro e wz ⟨rfl, hb⟩
      have HBZ := Lib.hid (bNext HB3.out hb)
      clear hb
      go_wp2_with fail
      go_ret
      exact ⟨rfl, HBZ.out⟩
  · have q1 : (ea != 0) = true := by simpa using hea
    clear hea
    obtain ⟨D, hD⟩ : ∃ X, Hid (X = w2.drew) := ⟨_, rfl⟩
    have hd : Below w2.heap.size w2 D := by rw [hD.out]; exact bDrewN (Below.refl _ _) 1
    have hS0 : Below w0.heap.size w0 D := bNext HW2.out hd
    refine wp_region_N (fun w' => Below w0.heap.size w0 w') (fun _ => true) (by kernel_rfl) ?_
    rw [← hD.out]
    clear hD hd
    refine wpAnyN_take (i := 0) (v := ?v22) rfl (by kernel_rfl) (by kernel_rfl) (by kernel_rfl) (by kernel_rfl) (fun _ _ _ h => h) (Or.inl ⟨by rfl, ?hy22⟩) (by assumption) ?_
    case hy22 => intro w hSw; (try dsimp only at hSw); go_simp; try with_reducible rfl
    simp only [Act.put, List.getElem_toArray, List.getElem_cons_zero, List.setIfInBounds_toArray, List.set_cons_zero, List.set_cons_succ]
    refine wpAnyN_take (i := 1) (v := ?v23) rfl (by kernel_rfl) (by kernel_rfl) (by kernel_rfl) (by kernel_rfl) (fun _ _ _ h => h) (Or.inl ⟨by rfl, ?hy23⟩) (by assumption) ?_
    case hy23 => intro w hSw; (try dsimp only at hSw); go_simp; try with_reducible rfl
    simp only [Act.put, List.getElem_toArray, List.getElem_cons_zero, List.getElem_cons_succ, List.setIfInBounds_toArray, List.set_cons_zero, List.set_cons_succ]
    refine wpAnyN_take (i := 2) (v := ?v24) rfl (by kernel_rfl) (by kernel_rfl) (by kernel_rfl) (by kernel_rfl) (fun _ _ _ h => h) (Or.inl ⟨by rfl, ?hy24⟩) (by assumption) ?_
    case hy24 => intro w hSw; (try dsimp only at hSw); go_simp; try with_reducible rfl
    simp only [Act.put, List.getElem_toArray, List.getElem_cons_zero, List.getElem_cons_succ, List.setIfInBounds_toArray, List.set_cons_zero, List.set_cons_succ]
    refine wpAnyN_take (i := 3) (v := undef) rfl (by kernel_rfl) (by kernel_rfl) (by kernel_rfl) (by kernel_rfl) (fun _ _ _ h => h) (Or.inr ⟨by rfl, rfl⟩) (by assumption) ?_
    simp only [Act.put, List.getElem_toArray, List.getElem_cons_zero, List.getElem_cons_succ, List.setIfInBounds_toArray, List.set_cons_zero, List.set_cons_succ]
    refine wpAnyN_take (i := 4) (v := undef) rfl (by kernel_rfl) (by kernel_rfl) (by kernel_rfl) (by kernel_rfl) (fun _ _ _ h => h) (Or.inr ⟨by rfl, rfl⟩) (by assumption) ?_
    simp only [Act.put, List.getElem_toArray, List.getElem_cons_zero, List.getElem_cons_succ, List.setIfInBounds_toArray, List.set_cons_zero, List.set_cons_succ]
    refine wpAnyN_take (i := 5) (v := ?v25) rfl (by kernel_rfl) (by kernel_rfl) (by kernel_rfl) (by kernel_rfl) (fun _ _ _ h => h) (Or.inl ⟨by rfl, ?hy25⟩) (by assumption) ?_
    case hy25 => intro w hSw; (try dsimp only at hSw); go_simp; try with_reducible rfl
    simp only [Act.put, List.getElem_toArray, List.getElem_cons_zero, List.getElem_cons_succ, List.setIfInBounds_toArray, List.set_cons_zero, List.set_cons_succ]
    refine wpAnyN_take (i := 6) (v := ?v26) rfl (by kernel_rfl) (by kernel_rfl) (by kernel_rfl) (by kernel_rfl) (fun _ _ _ h => h) (Or.inl ⟨by rfl, ?hy26⟩) (by assumption) ?_
    case hy26 => intro w hSw; (try dsimp only at hSw); go_simp; try with_reducible rfl
    simp only [Act.put, List.getElem_toArray, List.getElem_cons_zero, List.getElem_cons_succ, List.setIfInBounds_toArray, List.set_cons_zero, List.set_cons_succ]
    refine wpAnyN_take (i := 7) (v := undef) rfl (by kernel_rfl) (by kernel_rfl) (by kernel_rfl) (by kernel_rfl) (fun _ _ _ h => h) (Or.inr ⟨by rfl, rfl⟩) (by assumption) ?_
    simp only [Act.put, List.getElem_toArray, List.getElem_cons_zero, List.getElem_cons_succ, List.setIfInBounds_toArray, List.set_cons_zero, List.set_cons_succ]
    refine wpAnyN_take (i := 8) (v := undef) rfl (by kernel_rfl) (by kernel_rfl) (by kernel_rfl) (by kernel_rfl) (fun _ _ _ h => h) (Or.inr ⟨by rfl, rfl⟩) (by assumption) ?_
    simp only [Act.put, List.getElem_toArray, List.getElem_cons_zero, List.getElem_cons_succ, List.setIfInBounds_toArray, List.set_cons_zero, List.set_cons_succ]
    refine wpAnyN_take (i := 9) (v := undef) rfl (by kernel_rfl) (by kernel_rfl) (by kernel_rfl) (by kernel_rfl) (fun _ _ _ h => h) (Or.inr ⟨by rfl, rfl⟩) (by assumption) ?_
    simp only [Act.put, List.getElem_toArray, List.getElem_cons_zero, List.getElem_cons_succ, List.setIfInBounds_toArray, List.set_cons_zero, List.set_cons_succ]
    refine wpAnyN_take (i := 10) (v := undef) rfl (by kernel_rfl) (by kernel_rfl) (by kernel_rfl) (by kernel_rfl) (fun _ _ _ h => h) (Or.inr ⟨by rfl, rfl⟩) (by assumption) ?_
    simp only [Act.put, List.getElem_toArray, List.getElem_cons_zero, List.getElem_cons_succ, List.setIfInBounds_toArray, List.set_cons_zero, List.set_cons_succ]
    refine wpAnyN_take (i := 11) (v := undef) rfl (by kernel_rfl) (by kernel_rfl) (by kernel_rfl) (by kernel_rfl) (fun _ _ _ h => h) (Or.inr ⟨by rfl, rfl⟩) (by assumption) ?_
    simp only [Act.put, List.getElem_toArray, List.getElem_cons_zero, List.getElem_cons_succ, List.setIfInBounds_toArray, List.set_cons_zero, List.set_cons_succ]
    refine wpAnyN_take (i := 12) (v := undef) rfl (by kernel_rfl) (by kernel_rfl) (by kernel_rfl) (by kernel_rfl) (fun _ _ _ h => h) (Or.inr ⟨by rfl, rfl⟩) (by assumption) ?_
    simp only [Act.put, List.getElem_toArray, List.getElem_cons_zero, List.getElem_cons_succ, List.setIfInBounds_toArray, List.set_cons_zero, List.set_cons_succ]
    refine wpAnyN_take (i := 13) (v := ?v27) rfl (by kernel_rfl) (by kernel_rfl) (by kernel_rfl) (by kernel_rfl) (fun _ _ _ h => h) (Or.inl ⟨by rfl, ?hy27⟩) (by assumption) ?_
    case hy27 => intro w hSw; (try dsimp only at hSw); go_simp; try with_reducible rfl
    simp only [Act.put, List.getElem_toArray, List.getElem_cons_zero, List.getElem_cons_succ, List.setIfInBounds_toArray, List.set_cons_zero, List.set_cons_succ]
    refine wpAnyN_done (by kernel_rfl) ?_ _
    clear q1
    have HW3 := Lib.hid hS0
    have HB3 := Lib.hid (bNext HB0.out hS0)
    obtain ⟨w3, hw3⟩ : ∃ X, Hid (X = D) := ⟨_, rfl⟩
    rw [← hw3.out] at HW3 HB3 ⊢
    clear hS0 hw3
    go_wp2_with fail
    refine (example8_any w3).mono ?_
    rintro e wz ⟨rfl, hb⟩
    have HBZ := Lib.hid (bNext HB3.out hb)
    clear hb
    go_wp2_with fail
    go_ret
    exact ⟨rfl, HBZ.out⟩
end Go.Proofs.Ytcagaaacfcpoeaa
