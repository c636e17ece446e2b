/-
  Walks: the reference's Eval, IsCanon, Has and holds; the law's equal.
-/
import Derived.Test.YtcagaaacfcpoeaaGreatGc
namespace Go.Proofs.YtcagaaacfcpoeaaGreat
open Go.RowKit

theorem evT_rv {t : Tm} (h : validT t = true) : evT t = rvOf (valT t) := by
  unfold evT rvOf
  rw [if_neg (by simp [h])]
  cases valT t <;> rfl
set_option maxHeartbeats 4000000 in
theorem reval7_any (t : Tm) (A : Option Addr) (c : Nat) (w : World) (hrg : rngT t = true) (ha : ArgsAt w (Old w.heap.size) A t.args) :
    Calls Tryz.prog 7 #[t.v A c] w fun e w' => EvR w (evT t) e w' ∧ Below w.heap.size w w' := by
  obtain ⟨W, HW⟩ : ∃ X, Hid (X = (w.alloc (.cells #[.int .i64 t.kind, .int .i64 t.n, .string t.name, .slice A t.args.length c] 24)).alloc (.cells #[.int .i64 0, .int .i64 0, .string { data := #[] }, .slice none 0 0] 24)) := ⟨_, rfl⟩
  have hbW : Below w.heap.size w W := by rw [HW.out]; exact (bAlloc w _).alloc (by simp) _
  obtain ⟨q, hq⟩ : ∃ q, Hid (q = w.heap.size) := ⟨_, rfl⟩
  obtain ⟨r, hr⟩ : ∃ q, Hid (q = w.heap.size + 1) := ⟨_, rfl⟩
  have hk0 : Blk W q 24 #[.int .i64 t.kind, .int .i64 t.n, .string t.name, .slice A t.args.length c] := by rw [HW.out, hq.out]; exact (Blk.new w _ _).alloc _
  have hk1 : Blk W r 24 #[.int .i64 0, .int .i64 0, .string { data := #[] }, .slice none 0 0] := by
    rw [HW.out, hr.out]
    have h1 := Blk.new (w.alloc (.cells #[.int .i64 t.kind, .int .i64 t.n, .string t.name, .slice A t.args.length c] 24)) 24 #[.int .i64 0, .int .i64 0, .string { data := #[] }, .slice none 0 0]
    rw [World.size_alloc] at h1
    exact h1
  have HA := Lib.hid ha
  have HB := Lib.hid hbW
  have HK := Lib.hid hk0
  have HR := Lib.hid hk1
  have hqr : q ≠ r := by rw [hq.out, hr.out]; omega
  have hqw : w.heap.size ≤ q := by rw [hq.out]; exact Nat.le_refl _
  have hrw : w.heap.size ≤ r := by rw [hr.out]; omega
  have e0 := hk0.cell 0
  have e1 := hk0.cell 1
  have e2 := hk0.cell 2
  have e3 := hk0.cell 3
  have el := hk0.lt
  simp at e0 e1 e2 e3
  clear ha hbW hk0 hk1
  go_enter Tryz.func7, Tryz.ntmps7
  go_upto_region 1 with fail
  rw [← HW.out, ← hr.out, ← hq.out]
  clear HW
  go_wp2_with fail
  refine (valid03_any t A c W (ArgsNext HA.out HB.out)).mono ?_
  rintro e w1 ⟨rfl, hb1⟩
  have HB1 := Lib.hid (bNext HB.out hb1)
  have HR1 := Lib.hid (BlkNext HR.out hb1)
  have HK1 := Lib.hid (BlkNext HK.out hb1)
  clear e0 e1 e2 e3 el hb1
  cases hv : validT t
  · have HE := Lib.hid (evT_bad hv)
    clear hv
    have r0 := HR1.out.cell 0
    have f0 := HR1.out.frozen 0
    have r1 := HR1.out.cell 1
    have f1 := HR1.out.frozen 1
    have r2 := HR1.out.cell 2
    have f2 := HR1.out.frozen 2
    have r3 := HR1.out.cell 3
    have f3 := HR1.out.frozen 3
    have rl := HR1.out.lt
    simp at r0 r1 r2 r3
    go_wp2_with fail
    refine bodyPost_ret (v := .tuple #[.int .i64 0, Tm.v zeroT none 0, .int .i64 1]) (by simp only [results, Tryz.results7, Tm.kind, Tm.n, Tm.name, Tm.args]; go_simp; exact ⟨rfl, rfl, rfl, rfl⟩) rfl ⟨by rw [HE.out]; exact ⟨none, 0, rfl, .nil _⟩, ?_⟩
    repeat refine Below.setCell ?_ hrw _
    exact HB1.out
  · have HE := Lib.hid (evT_rv hv)
    have HOK := Lib.hid (validT_ok hv)
    clear hv
    have e0 := HK1.out.cell 0
    have g0 := HK1.out.frozen 0
    have e1 := HK1.out.cell 1
    have g1 := HK1.out.frozen 1
    have e2 := HK1.out.cell 2
    have g2 := HK1.out.frozen 2
    have e3 := HK1.out.cell 3
    have g3 := HK1.out.frozen 3
    have el := HK1.out.lt
    simp at e0 e1 e2 e3
    clear g0 g1 g2 g3
    go_wp2_with fail
    have hc := value25_any _ t (Nat.lt_succ_self _) HOK.out.1 hrg A c w1 (ArgsNext HA.out HB1.out)
    obtain ⟨⟨n, b, code⟩, hx⟩ : ∃ r, rvOf (valT t) = r := ⟨_, rfl⟩
    rw [hx] at hc HE
    have HC := Lib.hid hc
    clear hc hx
    refine HC.out.mono ?_
    rintro e w2 ⟨⟨A2, c2, rfl, ha2⟩, hb2⟩
    have HB2 := Lib.hid (bNext HB1.out hb2)
    have HR2 := Lib.hid (BlkNext HR1.out hb2)
    have HA2 := Lib.hid ha2
    have hz1 := HB1.out.size
    have hl1 := HR1.out.lt
    clear ha2 hb2 e0 e1 e2 e3 el
    have r0 := HR2.out.cell 0
    have f0 := HR2.out.frozen 0
    have r1 := HR2.out.cell 1
    have f1 := HR2.out.frozen 1
    have r2 := HR2.out.cell 2
    have f2 := HR2.out.frozen 2
    have r3 := HR2.out.cell 3
    have f3 := HR2.out.frozen 3
    have rl := HR2.out.lt
    simp at r0 r1 r2 r3
    go_wp2_with fail
    refine bodyPost_ret (v := .tuple #[.int .i64 n, Tm.v b A2 c2, .int .i64 code]) (by simp only [results, Tryz.results7]; go_simp) rfl ⟨by rw [HE.out]; exact ⟨A2, c2, rfl, HA2.out.keep (fun b hb => by repeat rw [heap_setCell_other _ _ _ _ (by have := hb.1; simp; omega)]) (fun b hb => ⟨by have := hb.1; omega, by have := hb.2; simpa using this⟩)⟩, ?_⟩
    repeat refine Below.setCell ?_ hrw _
    exact HB2.out
theorem same_can {t : Tm} (h : validT t = true) : sameT t (canonT t) = idT t (canonT t) := by
  unfold sameT
  rw [h, show validT (canonT t) = true by unfold canonT; rw [if_pos h]; exact validT_can h]
  rfl
theorem same_bad {t z : Tm} (h : validT t = false) : sameT t z = false := by unfold sameT; rw [h]; rfl
set_option maxHeartbeats 4000000 in
theorem iscan38_any (t : Tm) (A : Option Addr) (c : Nat) (w : World) (ha : ArgsAt w (Old w.heap.size) A t.args) :
    Calls Tryz.prog 38 #[t.v A c] w fun e w' => e = .returned (.bool (sameT t (canonT t))) ∧ Below w.heap.size w w' := by
  obtain ⟨W, HW⟩ : ∃ X, Hid (X = w.alloc (.cells #[.int .i64 t.kind, .int .i64 t.n, .string t.name, .slice A t.args.length c] 24)) := ⟨_, rfl⟩
  have hbW : Below w.heap.size w W := by rw [HW.out]; exact bAlloc w _
  obtain ⟨q, hq⟩ : ∃ q, Hid (q = w.heap.size) := ⟨_, rfl⟩
  have hk : Blk W q 24 #[.int .i64 t.kind, .int .i64 t.n, .string t.name, .slice A t.args.length c] := by rw [HW.out, hq.out]; exact Blk.new w _ _
  have HA := Lib.hid ha
  have HB := Lib.hid hbW
  have HK := Lib.hid hk
  clear ha hbW hk
  go_enter Tryz.func38, Tryz.ntmps38
  go_upto_region 1 with fail
  rw [← HW.out, ← hq.out]
  clear HW
  obtain ⟨D, hD⟩ : ∃ X, Hid (X = W.drew) := ⟨_, rfl⟩
  have hd : Below W.heap.size W D := by rw [hD.out]; exact bDrewN (Below.refl _ _) 1
  have hS0 : Below W.heap.size W D := hd
  refine wp_region_N (fun w' => Below W.heap.size W w') (fun _ => true) (by kernel_rfl) ?_
  rw [← hD.out]
  have HBD := Lib.hid (bNext HB.out hd)
  clear hD hd
  refine wpAnyN_take (i := 0) (v := ?v1) rfl (by kernel_rfl) (by kernel_rfl) (by kernel_rfl) (by kernel_rfl) (fun _ _ _ h => h) (Or.inl ⟨by rfl, ?hy1⟩) (by assumption) ?_
  case hy1 => intro w hSw; have h := BlkNext HK.out hSw; have e0 := h.cell 0; have e1 := h.cell 1; have e2 := h.cell 2; have e3 := h.cell 3; have el := h.lt; simp at e0 e1 e2 e3; clear h; go_simp; try with_reducible rfl
  simp only [Act.put, List.getElem_toArray, List.getElem_cons_zero, List.setIfInBounds_toArray, List.set_cons_zero, List.set_cons_succ]
  refine wpAnyN_one (i := 1) (by kernel_rfl) rfl (fun K hK => ?_)
  simp only [List.getElem_toArray, List.getElem_cons_zero, List.getElem_cons_succ]
  go_simp
  refine (valid03_any t A c D (ArgsNext HA.out HBD.out)).mono ?_
  rintro e w1 ⟨rfl, hb1⟩
  have hk1 : Below W.heap.size W w1 := bNext hS0 hb1
  refine hK _ _ (fun _ => hk1) ?_
  have HB1 := Lib.hid (bNext HBD.out hb1)
  clear hb1 hS0
  cases hv : validT t
  · have HE := Lib.hid (same_bad (z := canonT t) hv)
    clear hv
    (try simp only [Act.put, List.setIfInBounds_toArray, List.set_cons_zero, List.set_cons_succ])
    refine wpAnyN_take (i := 2) (v := ?v2) rfl (by kernel_rfl) (by kernel_rfl) (by kernel_rfl) (by kernel_rfl) (fun _ _ _ h => h) (Or.inl ⟨by rfl, ?hy2⟩) (by assumption) ?_
    case hy2 => intro w hSw; (try dsimp only at hSw); go_simp; try with_reducible rfl
    simp only [Act.put, List.getElem_toArray, List.getElem_cons_zero, List.getElem_cons_succ, List.setIfInBounds_toArray, List.set_cons_zero, List.set_cons_succ]
    refine wpAnyN_take (i := 3) (v := undef) rfl (by kernel_rfl) (by kernel_rfl) (by kernel_rfl) (by kernel_rfl) (fun _ _ _ h => h) (Or.inr ⟨by rfl, rfl⟩) (by assumption) ?_
    simp only [Act.put, List.getElem_toArray, List.getElem_cons_zero, List.getElem_cons_succ, List.setIfInBounds_toArray, List.set_cons_zero, List.set_cons_succ]
    refine wpAnyN_take (i := 4) (v := undef) rfl (by kernel_rfl) (by kernel_rfl) (by kernel_rfl) (by kernel_rfl) (fun _ _ _ h => h) (Or.inr ⟨by rfl, rfl⟩) (by assumption) ?_
    simp only [Act.put, List.getElem_toArray, List.getElem_cons_zero, List.getElem_cons_succ, List.setIfInBounds_toArray, List.set_cons_zero, List.set_cons_succ]
    refine wpAnyN_take (i := 5) (v := undef) rfl (by kernel_rfl) (by kernel_rfl) (by kernel_rfl) (by kernel_rfl) (fun _ _ _ h => h) (Or.inr ⟨by rfl, rfl⟩) (by assumption) ?_
    simp only [Act.put, List.getElem_toArray, List.getElem_cons_zero, List.getElem_cons_succ, List.setIfInBounds_toArray, List.set_cons_zero, List.set_cons_succ]
    refine wpAnyN_take (i := 6) (v := undef) rfl (by kernel_rfl) (by kernel_rfl) (by kernel_rfl) (by kernel_rfl) (fun _ _ _ h => h) (Or.inr ⟨by rfl, rfl⟩) (by assumption) ?_
    simp only [Act.put, List.getElem_toArray, List.getElem_cons_zero, List.getElem_cons_succ, List.setIfInBounds_toArray, List.set_cons_zero, List.set_cons_succ]
    refine wpAnyN_take (i := 7) (v := ?v3) rfl (by kernel_rfl) (by kernel_rfl) (by kernel_rfl) (by kernel_rfl) (fun _ _ _ h => h) (Or.inl ⟨by rfl, ?hy3⟩) (by assumption) ?_
    case hy3 => intro w hSw; (try dsimp only at hSw); go_simp; try with_reducible rfl
    simp only [Act.put, List.getElem_toArray, List.getElem_cons_zero, List.getElem_cons_succ, List.setIfInBounds_toArray, List.set_cons_zero, List.set_cons_succ]
    refine wpAnyN_take (i := 8) (v := ?v4) rfl (by kernel_rfl) (by kernel_rfl) (by kernel_rfl) (by kernel_rfl) (fun _ _ _ h => h) (Or.inl ⟨by rfl, ?hy4⟩) (by assumption) ?_
    case hy4 => intro w hSw; (try dsimp only at hSw); go_simp; try with_reducible rfl
    simp only [Act.put, List.getElem_toArray, List.getElem_cons_zero, List.getElem_cons_succ, List.setIfInBounds_toArray, List.set_cons_zero, List.set_cons_succ]
    refine wpAnyN_done (by kernel_rfl) ?_ _
    clear hk1
    go_wp2_with fail
    go_ret
    exact ⟨ret_bool HE.out.symm, HB1.out⟩
  · have HE := Lib.hid (same_can hv)
    have HOK := Lib.hid (validT_ok hv)
    clear hv
    (try simp only [Act.put, List.setIfInBounds_toArray, List.set_cons_zero, List.set_cons_succ])
    refine wpAnyN_take (i := 2) (v := ?v5) rfl (by kernel_rfl) (by kernel_rfl) (by kernel_rfl) (by kernel_rfl) (fun _ _ _ h => h) (Or.inl ⟨by rfl, ?hy5⟩) (by assumption) ?_
    case hy5 => intro w hSw; (try dsimp only at hSw); go_simp; try with_reducible rfl
    simp only [Act.put, List.getElem_toArray, List.getElem_cons_zero, List.getElem_cons_succ, List.setIfInBounds_toArray, List.set_cons_zero, List.set_cons_succ]
    refine wpAnyN_take (i := 3) (v := ?v6) rfl (by kernel_rfl) (by kernel_rfl) (by kernel_rfl) (by kernel_rfl) (fun _ _ _ h => h) (Or.inl ⟨by rfl, ?hy6⟩) (by assumption) ?_
    case hy6 => intro w hSw; have h := BlkNext HK.out hSw; have e0 := h.cell 0; have e1 := h.cell 1; have e2 := h.cell 2; have e3 := h.cell 3; have el := h.lt; simp at e0 e1 e2 e3; clear h; go_simp; try with_reducible rfl
    simp only [Act.put, List.getElem_toArray, List.getElem_cons_zero, List.getElem_cons_succ, List.setIfInBounds_toArray, List.set_cons_zero, List.set_cons_succ]
    refine wpAnyN_take (i := 4) (v := ?v7) rfl (by kernel_rfl) (by kernel_rfl) (by kernel_rfl) (by kernel_rfl) (fun _ _ _ h => h) (Or.inl ⟨by rfl, ?hy7⟩) (by assumption) ?_
    case hy7 => intro w hSw; have h := BlkNext HK.out hSw; have e0 := h.cell 0; have e1 := h.cell 1; have e2 := h.cell 2; have e3 := h.cell 3; have el := h.lt; simp at e0 e1 e2 e3; clear h; go_simp; try with_reducible rfl
    simp only [Act.put, List.getElem_toArray, List.getElem_cons_zero, List.getElem_cons_succ, List.setIfInBounds_toArray, List.set_cons_zero, List.set_cons_succ]
    refine wpAnyN_one (i := 5) (by kernel_rfl) rfl (fun K hK => ?_)
    simp only [List.getElem_toArray, List.getElem_cons_zero, List.getElem_cons_succ]
    go_simp
    refine (canon15_any t A c w1 (ArgsNext HA.out HB1.out)).mono ?_
    rintro e w2 ⟨⟨A2, c2, rfl, ha2⟩, hb2⟩
    have hk2 : Below W.heap.size W w2 := bNext hk1 hb2
    refine hK _ _ (fun _ => hk2) ?_
    have HB2 := Lib.hid (bNext HB1.out hb2)
    have HA2 := Lib.hid (ha2.keep (w' := w2) (G := Old w2.heap.size) (fun _ _ => rfl) (fun _ h => h.2))
    clear hb2 hk1 ha2
    obtain ⟨z, hz⟩ : ∃ z, Hid (z = canonT t) := ⟨_, rfl⟩
    rw [← hz.out] at HA2 HE ⊢
    (try simp only [Act.put, List.setIfInBounds_toArray, List.set_cons_zero, List.set_cons_succ])
    refine wpAnyN_one (i := 6) (by kernel_rfl) rfl (fun K hK => ?_)
    simp only [List.getElem_toArray, List.getElem_cons_zero, List.getElem_cons_succ]
    go_simp
    refine (ident57_any _ t z (Nat.lt_succ_self _) (by have := HOK.out.2; omega) A c A2 c2 w2 (ArgsNext HA.out HB2.out) HA2.out).mono ?_
    rintro e w3 ⟨rfl, hb3⟩
    have hk3 : Below W.heap.size W w3 := bNext hk2 hb3
    refine hK _ _ (fun _ => hk3) ?_
    have HB3 := Lib.hid (bNext HB2.out hb3)
    clear hb3 hk2
    (try simp only [Act.put, List.setIfInBounds_toArray, List.set_cons_zero, List.set_cons_succ])
    refine wpAnyN_take (i := 7) (v := ?v8) rfl (by kernel_rfl) (by kernel_rfl) (by kernel_rfl) (by kernel_rfl) (fun _ _ _ h => h) (Or.inl ⟨by rfl, ?hy8⟩) (by assumption) ?_
    case hy8 => intro w hSw; (try dsimp only at hSw); go_simp; try with_reducible rfl
    simp only [Act.put, List.getElem_toArray, List.getElem_cons_zero, List.getElem_cons_succ, List.setIfInBounds_toArray, List.set_cons_zero, List.set_cons_succ]
    refine wpAnyN_take (i := 8) (v := ?v9) rfl (by kernel_rfl) (by kernel_rfl) (by kernel_rfl) (by kernel_rfl) (fun _ _ _ h => h) (Or.inl ⟨by rfl, ?hy9⟩) (by assumption) ?_
    case hy9 => intro w hSw; (try dsimp only at hSw); go_simp; try with_reducible rfl
    simp only [Act.put, List.getElem_toArray, List.getElem_cons_zero, List.getElem_cons_succ, List.setIfInBounds_toArray, List.set_cons_zero, List.set_cons_succ]
    refine wpAnyN_done (by kernel_rfl) ?_ _
    clear hk3
    go_wp2_with fail
    go_ret
    exact ⟨ret_bool (by rw [← hz.out]; exact HE.out.symm), HB3.out⟩
theorem rhas13_any (x : ByteArray) (ar : Int) (w : World) : Calls Tryz.prog 13 #[.string x, .int .i64 ar] w fun e w' => e = .returned (.bool (hasS x ar)) ∧ Below w.heap.size w w' := by
  go_enter Tryz.func13, Tryz.ntmps13
  by_cases h0 : x = ⟨#[105, 115]⟩
  · subst h0
    go_wp2_with fail
    go_ret
    exact ⟨iret_bool (by rw [Bool.eq_iff_iff]; simp [hasS, cmpT, lookS, eqS_data]), Below.refl _ _⟩
  by_cases h1 : x = ⟨#[61, 58, 61]⟩
  · subst h1
    go_wp2_with fail
    go_ret
    exact ⟨iret_bool (by rw [Bool.eq_iff_iff]; simp [hasS, cmpT, lookS, eqS_data]), Below.refl _ _⟩
  by_cases h2 : x = ⟨#[61, 92, 61]⟩
  · subst h2
    go_wp2_with fail
    go_ret
    exact ⟨iret_bool (by rw [Bool.eq_iff_iff]; simp [hasS, cmpT, lookS, eqS_data]), Below.refl _ _⟩
  by_cases h3 : x = ⟨#[60]⟩
  · subst h3
    go_wp2_with fail
    go_ret
    exact ⟨iret_bool (by rw [Bool.eq_iff_iff]; simp [hasS, cmpT, lookS, eqS_data]), Below.refl _ _⟩
  by_cases h4 : x = ⟨#[62]⟩
  · subst h4
    go_wp2_with fail
    go_ret
    exact ⟨iret_bool (by rw [Bool.eq_iff_iff]; simp [hasS, cmpT, lookS, eqS_data]), Below.refl _ _⟩
  by_cases h5 : x = ⟨#[61, 60]⟩
  · subst h5
    go_wp2_with fail
    go_ret
    exact ⟨iret_bool (by rw [Bool.eq_iff_iff]; simp [hasS, cmpT, lookS, eqS_data]), Below.refl _ _⟩
  by_cases h6 : x = ⟨#[62, 61]⟩
  · subst h6
    go_wp2_with fail
    go_ret
    exact ⟨iret_bool (by rw [Bool.eq_iff_iff]; simp [hasS, cmpT, lookS, eqS_data]), Below.refl _ _⟩
  have HE := Lib.hid (show hasS x ar = false by simp [hasS, cmpT, lookS, eqS_ne h0, eqS_ne h1, eqS_ne h2, eqS_ne h3, eqS_ne h4, eqS_ne h5, eqS_ne h6])
  have e0 := ne_list (l := [105, 115]) h0
  have e1 := ne_list (l := [61, 58, 61]) h1
  have e2 := ne_list (l := [61, 92, 61]) h2
  have e3 := ne_list (l := [60]) h3
  have e4 := ne_list (l := [62]) h4
  have e5 := ne_list (l := [61, 60]) h5
  have e6 := ne_list (l := [62, 61]) h6
  clear h0 h1 h2 h3 h4 h5 h6
  go_wp2_with fail
  go_ret
  exact ⟨iret_bool HE.out.symm, Below.refl _ _⟩
theorem holds40_any (x : ByteArray) (a b : Int) (w : World) : Calls Tryz.prog 40 #[.string x, .int .i64 a, .int .i64 b] w fun e w' => e = .returned (.bool (cmpB x a b)) ∧ Below w.heap.size w w' := by
  go_enter Tryz.func40, Tryz.ntmps40
  by_cases h1 : x = ⟨#[61, 58, 61]⟩
  · subst h1
    go_wp2_with fail
    all_goals
      go_ret
      refine ⟨iret_bool ?_, Below.refl _ _⟩
      rw [Bool.eq_iff_iff]
      simp [cmpB, eqS_data]
  by_cases h2 : x = ⟨#[61, 92, 61]⟩
  · subst h2
    go_wp2_with fail
    all_goals
      go_ret
      refine ⟨iret_bool ?_, Below.refl _ _⟩
      rw [Bool.eq_iff_iff]
      simp [cmpB, eqS_data]
  by_cases h3 : x = ⟨#[60]⟩
  · subst h3
    go_wp2_with fail
    all_goals
      go_ret
      refine ⟨iret_bool ?_, Below.refl _ _⟩
      rw [Bool.eq_iff_iff]
      simp [cmpB, eqS_data]
  by_cases h4 : x = ⟨#[62]⟩
  · subst h4
    go_wp2_with fail
    all_goals
      go_ret
      refine ⟨iret_bool ?_, Below.refl _ _⟩
      rw [Bool.eq_iff_iff]
      simp [cmpB, eqS_data]
  by_cases h5 : x = ⟨#[61, 60]⟩
  · subst h5
    go_wp2_with fail
    all_goals
      go_ret
      refine ⟨iret_bool ?_, Below.refl _ _⟩
      rw [Bool.eq_iff_iff]
      simp [cmpB, eqS_data]
  have HE := Lib.hid (show cmpB x a b = decide (b ≤ a) by simp [cmpB, eqS_ne h1, eqS_ne h2, eqS_ne h3, eqS_ne h4, eqS_ne h5])
  have e1 := ne_list (l := [61, 58, 61]) h1
  have e2 := ne_list (l := [61, 92, 61]) h2
  have e3 := ne_list (l := [60]) h3
  have e4 := ne_list (l := [62]) h4
  have e5 := ne_list (l := [61, 60]) h5
  clear h1 h2 h3 h4 h5
  go_wp2_with fail
  go_ret
  exact ⟨iret_bool HE.out.symm, Below.refl _ _⟩
def eqV (n m : Int) (a b : Tm) (e f : Int) : Bool := if e = f ∧ n = m then (if e = 8 then sameT a b else zeroB a) else false
set_option maxHeartbeats 1000000 in
theorem equal8_any (n m : Int) (a b : Tm) (Aa : Option Addr) (ca : Nat) (Ab : Option Addr) (cb : Nat) (e f : Int) (w : World) (haa : ArgsAt w (Old w.heap.size) Aa a.args) (hab : ArgsAt w (Old w.heap.size) Ab b.args) :
    Calls Tryz.prog 8 #[.int .i64 n, .int .i64 m, a.v Aa ca, b.v Ab cb, .int .i64 e, .int .i64 f] w fun e' w' => e' = .returned (.bool (eqV n m a b e f)) ∧ Below w.heap.size w w' := by
  have HA := Lib.hid haa
  have HB := Lib.hid hab
  clear haa hab
  have hbW : Below w.heap.size w ((w.alloc (.cells #[.int .i64 a.kind, .int .i64 a.n, .string a.name, .slice Aa a.args.length ca] 24)).alloc (.cells #[.int .i64 b.kind, .int .i64 b.n, .string b.name, .slice Ab b.args.length cb] 24)) := (bAlloc w _).alloc (by simp) _
  have HBW := Lib.hid hbW
  clear hbW
  go_enter Tryz.func8, Tryz.ntmps8
  by_cases hef : e = f
  · subst hef
    by_cases hnm : n = m
    · subst hnm
      by_cases h8 : e = 8
      · subst h8
        have HE := Lib.hid (show eqV n n a b 8 8 = sameT a b by simp [eqV])
        go_wp2_with fail
        refine (same12_any a b Aa ca Ab cb _ (ArgsNext HA.out HBW.out) (ArgsNext HB.out HBW.out)).mono ?_
        rintro e w1 ⟨rfl, hb1⟩
        have HB1 := Lib.hid (bNext HBW.out hb1)
        clear hb1
        go_wp2_with fail
        go_ret
        exact ⟨ret_bool HE.out.symm, HB1.out⟩
      · have HE := Lib.hid (show eqV n n a b e e = zeroB a by simp [eqV, h8])
        have q8 : (e == 8) = false := by simpa using h8
        clear h8
        go_wp2_with fail
        refine (zero17_any a Aa ca _).mono ?_
        rintro e w1 ⟨rfl, hb1⟩
        have HB1 := Lib.hid (bNext HBW.out hb1)
        clear hb1
        go_wp2_with fail
        go_ret
        exact ⟨ret_bool HE.out.symm, HB1.out⟩
    · have HE := Lib.hid (show eqV n m a b e e = false by simp [eqV, hnm])
      have q1 : (n != m) = true := by simpa using hnm
      clear hnm
      go_wp2_with fail
      go_ret
      exact ⟨ret_bool HE.out.symm, HBW.out⟩
  · have HE := Lib.hid (show eqV n m a b e f = false by simp [eqV, hef])
    have q1 : (e != f) = true := by simpa using hef
    clear hef
    go_wp2_with fail
    go_ret
    exact ⟨ret_bool HE.out.symm, HBW.out⟩
end Go.Proofs.YtcagaaacfcpoeaaGreat
