/-
  Walks: the value of an expression.
-/
import Derived.Test.YtcagaaacfcpoeaaGreatCj
import Derived.Test.YtcagaaacfcpoeaaGreatRegN
import Derived.Deep.RegionHeld3
namespace Go.Proofs.YtcagaaacfcpoeaaGreat
open Go.RowKit

theorem okT_name {t : Tm} (h : okT t = true) (h0 : t.kind ≠ 0) (h1 : t.kind ≠ 1) : t.name.size ≤ 100 := by
  rw [okT_eq] at h
  simp only [Bool.and_eq_true] at h
  have h4 := h.1
  unfold nodeB at h4
  rw [if_neg (by simpa using h0), if_neg (by simpa using h1)] at h4
  split at h4
  · simp at h4; omega
  · split at h4
    · simp at h4; omega
    · cases h4
theorem knS_ar {x : ByteArray} {n : Nat} (h : knS x (n : Int) = true) : n = 1 ∨ n = 2 := by
  unfold knS namesS at h
  by_cases h1 : (n : Int) = 1
  · omega
  · rw [if_neg h1] at h
    by_cases h2 : (n : Int) = 2
    · omega
    · rw [if_neg h2] at h; simp at h
theorem valTgo_in : ∀ (a : List Tm), rngT.go a = true → ∀ l, valT.go a = .ok l → ∀ x ∈ l, inR x := by
  intro a
  induction a with
  | nil => intro _ l hl x hx; simp only [valT.go] at hl; injection hl with hl; subst hl; simp at hx
  | cons y r ih =>
    intro hr l hl x hx
    simp only [rngT.go, Bool.and_eq_true] at hr
    simp only [valT.go] at hl
    cases hy : valT y with
    | error b => rw [hy] at hl; cases hl
    | ok v =>
      rw [hy] at hl
      dsimp only at hl
      cases hg : valT.go r with
      | error b => rw [hg] at hl; cases hl
      | ok us =>
        rw [hg] at hl
        injection hl with hl
        subst hl
        rcases List.mem_cons.1 hx with rfl | hx
        · exact valT_in _ y (Nat.lt_succ_self _) hr.1 _ hy
        · exact ih hr.2 us hg x hx
theorem Blk.empty {w : World} {g : Nat} (h : w.heap[g]? = some (.cells #[] 45 (0, 0))) : g < w.heap.size := (Array.getElem?_eq_some_iff.1 h).1
set_option maxHeartbeats 8000000 in
theorem value22_any (N : Nat) : ValOK N := by
  induction N with
  | zero => intro t h; omega
  | succ N ih =>
    intro t hN hok hrg A c w ha
    have hlen := args_le t
    have hce := cnt_eq t
    have HA := Lib.hid ha
    have HOK := Lib.hid hok
    have HRG := Lib.hid hrg
    have HIH := Lib.hid ih
    clear ha hok hrg ih
    obtain ⟨W, HW⟩ : ∃ X, Hid (X = (w.alloc (.cells #[] 45)).alloc (.cells #[.int .i64 t.kind, .int .i64 t.n, .string t.name, .slice A t.args.length c] 24)) := ⟨_, rfl⟩
    have hbW : Below w.heap.size w W := by rw [HW.out]; exact (bAlloc w _).alloc (by simp) _
    obtain ⟨z, hz⟩ : ∃ q, Hid (q = w.heap.size) := ⟨_, rfl⟩
    obtain ⟨q, hq⟩ : ∃ q, Hid (q = w.heap.size + 1) := ⟨_, rfl⟩
    have hk0 : Blk W q 24 #[.int .i64 t.kind, .int .i64 t.n, .string t.name, .slice A t.args.length c] := by
      rw [HW.out, hq.out]
      have h1 := Blk.new (w.alloc (.cells #[] 45)) 24 #[.int .i64 t.kind, .int .i64 t.n, .string t.name, .slice A t.args.length c]
      rw [World.size_alloc] at h1
      exact h1
    have hk1 : Blk W z 45 #[] := by rw [HW.out, hz.out]; exact (Blk.new w _ _).alloc _
    have HB0 := Lib.hid hbW
    have HK0 := Lib.hid hk0
    have HZ0 := Lib.hid hk1
    have e0 := hk0.cell 0
    have e1 := hk0.cell 1
    have e2 := hk0.cell 2
    have e3 := hk0.cell 3
    have el := hk0.lt
    simp at e0 e1 e2 e3
    clear hbW hk0 hk1
    go_enter Tryz.func24, Tryz.ntmps24
    go_upto_region 1 with fail
    rw [← HW.out, ← hq.out, ← hz.out]
    clear HW
    by_cases h1 : t.kind = 1
    · have HV := Lib.hid (valT_int h1)
      go_wp2_with fail
      refine bodyPost_ret (v := .int .i64 t.n) (by simp only [results, Tryz.results24]; go_simp) rfl ⟨?_, HB0.out⟩
      rw [HV.out]
      rfl
    · by_cases h0 : t.kind = 0
      · have HV := Lib.hid (valT_var h0)
        go_wp2_with fail
        refine (inst45_any W).mono ?_
        rintro e w1 ⟨⟨A1, c1, rfl, ha1⟩, hb1⟩
        have HB1 := Lib.hid (bNext HB0.out hb1)
        have hz1 := hb1.size
        have hz0 := HB0.out.size
        go_wp2_with fail
        refine (raise44_any _ A1 c1 w1).mono ?_
        rintro e w2 ⟨rfl, rfl⟩
        refine ⟨rfl, ?_, HB1.out.alloc (by omega) _⟩
        rw [HV.out]
        exact ⟨A1, c1, rfl, ha1.keep (fun b hb => Below.heap_alloc _ _ b hb.2) (fun b hb => ⟨by have := hb.1; omega, by have := hb.2; simp; omega⟩)⟩
      · have hns := okT_name HOK.out h0 h1
        have H1 := Lib.hid h1
        have H0 := Lib.hid h0
        go_wp2_with fail
        refine (Known_any t.name _ W).mono ?_
        rintro e w1 ⟨rfl, hb1⟩
        have HB1 := Lib.hid (bNext HB0.out hb1)
        have HK1 := Lib.hid (BlkNext HK0.out hb1)
        have HZ1 := Lib.hid (show Blk w1 z 45 #[] from (hb1.block z HZ0.out.lt).trans HZ0.out)
        have hz1 := hb1.size
        have hz0 := HB0.out.size
        clear hb1 e0 e1 e2 e3 el
        have e0 := HK1.out.cell 0
        have e1 := HK1.out.cell 1
        have e2 := HK1.out.cell 2
        have e3 := HK1.out.cell 3
        have el := HK1.out.lt
        simp at e0 e1 e2 e3
        cases hkn : knS t.name (t.args.length : Int)
        · have HV := Lib.hid (valT_unk H1.out H0.out hkn)
          clear hkn h0 h1
          go_wp2_with fail
          refine (ind48_any t.name _ w1 (by omega)).mono ?_
          rintro e w2 ⟨⟨A2, c2, rfl, ha2⟩, hb2⟩
          have HA2 := Lib.hid (ha2.keep (w' := w2) (G := Old w2.heap.size) (fun _ _ => rfl) (fun b hb => hb.2))
          have hz2 := hb2.size
          have HB2 := Lib.hid (bNext HB1.out hb2)
          clear ha2 hb2 e0 e1 e2 e3 el
          go_wp2_with fail
          refine (type47_any _ _ A2 c2 w2 HA2.out (by decide)).mono ?_
          rintro e w3 ⟨⟨A3, c3, rfl, ha3⟩, hb3⟩
          have hz3 := hb3.size
          have HB3 := Lib.hid (bNext HB2.out hb3)
          go_wp2_with fail
          refine (raise44_any _ A3 c3 w3).mono ?_
          rintro e w4 ⟨rfl, rfl⟩
          refine ⟨rfl, ?_, HB3.out.alloc (by omega) _⟩
          rw [HV.out]
          exact ⟨A3, c3, rfl, ha3.keep (fun b hb => Below.heap_alloc _ _ b hb.2) (fun b hb => ⟨by have := hb.1; omega, by have := hb.2; simp; omega⟩)⟩
        · have har := knS_ar hkn
          have HV := Lib.hid (valT_fun H1.out H0.out hkn)
          clear hkn h0 h1
          have hyp := each38_of N HIH.out t.args (by omega) (okT_args HOK.out) (rngT_args HRG.out) (by omega) A c w1 (ArgsNext HA.out HB1.out)
          have HYP := Lib.hid hyp
          have e4 := HZ1.out.lt
          clear hyp
          go_wp2_with fail
          refine HYP.out.mono ?_
          rintro e w2 ⟨hv, hb2⟩
          have hz2 := hb2.size
          have HB2 := Lib.hid (bNext HB1.out hb2)
          have HK2 := Lib.hid (BlkNext HK1.out hb2)
          clear hb2 e0 e1 e2 e3 el e4
          cases hgo : valT.go t.args with
          | error b =>
            rw [hgo] at hv
            obtain ⟨A9, c9, rfl, h9⟩ := hv
            refine ⟨rfl, ?_, HB2.out⟩
            rw [HV.out, hgo]
            exact ⟨A9, c9, rfl, h9.keep (fun _ _ => rfl) (fun b hb => ⟨by have := hb.1; omega, hb.2⟩)⟩
          | ok vs =>
            rw [hgo] at hv
            obtain ⟨v, rfl, hown⟩ := hv
            have hvl := valT_go_len hgo
            have hvin : ∀ x ∈ vs, inR x := valTgo_in t.args (rngT_args HRG.out) vs hgo
            have HVF : Hid (valT t = finV t.name vs) := Lib.hid (by rw [HV.out, hgo])
            have e0 := HK2.out.cell 2
            have el := HK2.out.lt
            simp at e0
            rcases har with har | har
            · obtain ⟨x, rfl⟩ : ∃ x, vs = [x] := by
                match vs, hvl.trans har with
                | [x], _ => exact ⟨x, rfl⟩
              obtain ⟨g, cap, rfl⟩ := own_some hown (by simp)
              have c0 : w2.cell? ⟨g, 0, none⟩ = some (.int .i64 x) := by
                have h := hown.cells (g := g) rfl 0 (.int .i64 x) rfl
                simpa [Addr.add] using h
              have gl := (hown.lt g rfl).2
              have HX := Lib.hid (hvin x (by simp))
              have HLEN := Lib.hid hvl
              have HLEN2 := Lib.hid har
              clear hvl har hown hgo hvin
              go_upto_region 12 with fail
              obtain ⟨D, hD⟩ : ∃ X, Hid (X = w2.drew) := ⟨_, rfl⟩
              have hbD : Below w2.heap.size w2 D := by rw [hD.out]; exact bDrewN (Below.refl _ _) 1
              have HBD := Lib.hid hbD
              have hS0 : (fun w' => w'.cell? ⟨q, 2, none⟩ = some (.string t.name) ∧ w'.cell? ⟨g, 0, none⟩ = some (.int .i64 x)) D := ⟨(hbD.cell (p := ⟨q, 2, none⟩) el).trans e0, (hbD.cell (p := ⟨g, 0, none⟩) gl).trans c0⟩
              have hDz := hbD.size
              have hgD : g < D.heap.size := by omega
              have hqD : q < D.heap.size := by omega
              refine wp_region_N (fun w' => w'.cell? ⟨q, 2, none⟩ = some (.string t.name) ∧ w'.cell? ⟨g, 0, none⟩ = some (.int .i64 x)) (fun _ => true) (by kernel_rfl) ?_
              rw [← hD.out]
              clear hD hbD e0 c0
              refine wpAnyN_take (i := 0) (v := ?v1) rfl (by kernel_rfl) (by kernel_rfl) (by kernel_rfl) (by kernel_rfl) (fun _ _ _ h => h) (Or.inl ⟨by rfl, ?hy1⟩) (by assumption) ?_
              case hy1 => intro w hSw; obtain ⟨a0, a1⟩ := hSw; go_simp; try with_reducible rfl
              simp only [Act.put, List.getElem_toArray, List.getElem_cons_zero, List.setIfInBounds_toArray, List.set_cons_zero, List.set_cons_succ]
              refine wpAnyN_take (i := 1) (v := ?v2) rfl (by kernel_rfl) (by kernel_rfl) (by kernel_rfl) (by kernel_rfl) (fun _ _ _ h => h) (Or.inl ⟨by rfl, ?hy2⟩) (by assumption) ?_
              case hy2 => intro w hSw; obtain ⟨a0, a1⟩ := hSw; go_simp; try with_reducible rfl
              simp only [Act.put, List.getElem_toArray, List.getElem_cons_zero, List.getElem_cons_succ, List.setIfInBounds_toArray, List.set_cons_zero, List.set_cons_succ]
              refine wpAnyN_take (i := 2) (v := ?v3) rfl (by kernel_rfl) (by kernel_rfl) (by kernel_rfl) (by kernel_rfl) (fun _ _ _ h => h) (Or.inl ⟨by rfl, ?hy3⟩) (by assumption) ?_
              case hy3 => intro w hSw; obtain ⟨a0, a1⟩ := hSw; go_simp; try with_reducible rfl
              simp only [Act.put, List.getElem_toArray, List.getElem_cons_zero, List.getElem_cons_succ, List.setIfInBounds_toArray, List.set_cons_zero, List.set_cons_succ]
              refine wpAnyN_take (i := 3) (v := ?v4) rfl (by kernel_rfl) (by kernel_rfl) (by kernel_rfl) (by kernel_rfl) (fun _ _ _ h => h) (Or.inl ⟨by rfl, ?hy4⟩) (by assumption) ?_
              case hy4 => intro w hSw; obtain ⟨a0, a1⟩ := hSw; go_simp; try with_reducible rfl
              simp only [Act.put, List.getElem_toArray, List.getElem_cons_zero, List.getElem_cons_succ, List.setIfInBounds_toArray, List.set_cons_zero, List.set_cons_succ]
              refine wpAnyN_take (i := 4) (v := ?v5) rfl (by kernel_rfl) (by kernel_rfl) (by kernel_rfl) (by kernel_rfl) (fun _ _ _ h => h) (Or.inl ⟨by rfl, ?hy5⟩) (by assumption) ?_
              case hy5 => intro w hSw; obtain ⟨a0, a1⟩ := hSw; go_simp; try with_reducible rfl
              simp only [Act.put, List.getElem_toArray, List.getElem_cons_zero, List.getElem_cons_succ, List.setIfInBounds_toArray, List.set_cons_zero, List.set_cons_succ]
              refine wpAnyN_one (i := 5) (by kernel_rfl) rfl (fun K hK => ?_)
              simp only [List.getElem_toArray, List.getElem_cons_zero, List.getElem_cons_succ]
              go_simp
              refine (Unary_any t.name x HX.out D).mono ?_
              rintro e w3 ⟨rfl, hb3⟩
              have hS3 : (fun w' => w'.cell? ⟨q, 2, none⟩ = some (.string t.name) ∧ w'.cell? ⟨g, 0, none⟩ = some (.int .i64 x)) w3 := ⟨(hb3.cell (p := ⟨q, 2, none⟩) hqD).trans hS0.1, (hb3.cell (p := ⟨g, 0, none⟩) hgD).trans hS0.2⟩
              have hz3 := hb3.size
              have HB3 := Lib.hid (bNext (bNext HB2.out HBD.out) hb3)
              have HP := Lib.hid (show valT t = valR (unS t.name x) from HVF.out)
              clear hb3
              obtain ⟨p1, p2, hpp⟩ : ∃ p1 p2, unS t.name x = (p1, p2) := ⟨_, _, rfl⟩
              rw [hpp] at HP
              rw [hpp, show pair (p1, p2) = .tuple #[.int .i64 p1, .int .i64 p2] from rfl]
              refine hK _ _ (fun _ => hS3) ?_
              (try simp only [Act.put, List.setIfInBounds_toArray, List.set_cons_zero, List.set_cons_succ])
              refine wpAnyN_take (i := 6) (v := ?v6) rfl (by kernel_rfl) (by kernel_rfl) (by kernel_rfl) (by kernel_rfl) (fun _ _ _ h => h) (Or.inl ⟨by rfl, ?hy6⟩) (by assumption) ?_
              case hy6 => intro w hSw; obtain ⟨a0, a1⟩ := hSw; go_simp; try with_reducible rfl
              simp only [Act.put, List.getElem_toArray, List.getElem_cons_zero, List.getElem_cons_succ, List.setIfInBounds_toArray, List.set_cons_zero, List.set_cons_succ]
              refine wpAnyN_take (i := 7) (v := ?v7) rfl (by kernel_rfl) (by kernel_rfl) (by kernel_rfl) (by kernel_rfl) (fun _ _ _ h => h) (Or.inl ⟨by rfl, ?hy7⟩) (by assumption) ?_
              case hy7 => intro w hSw; obtain ⟨a0, a1⟩ := hSw; go_simp; try with_reducible rfl
              simp only [Act.put, List.getElem_toArray, List.getElem_cons_zero, List.getElem_cons_succ, List.setIfInBounds_toArray, List.set_cons_zero, List.set_cons_succ]
              refine wpAnyN_take (i := 8) (v := ?v8) rfl (by kernel_rfl) (by kernel_rfl) (by kernel_rfl) (by kernel_rfl) (fun _ _ _ h => h) (Or.inl ⟨by rfl, ?hy8⟩) (by assumption) ?_
              case hy8 => intro w hSw; obtain ⟨a0, a1⟩ := hSw; go_simp; try with_reducible rfl
              simp only [Act.put, List.getElem_toArray, List.getElem_cons_zero, List.getElem_cons_succ, List.setIfInBounds_toArray, List.set_cons_zero, List.set_cons_succ]
              refine wpAnyN_take (i := 9) (v := ?v9) rfl (by kernel_rfl) (by kernel_rfl) (by kernel_rfl) (by kernel_rfl) (fun _ _ _ h => h) (Or.inl ⟨by rfl, ?hy9⟩) (by assumption) ?_
              case hy9 => intro w hSw; obtain ⟨a0, a1⟩ := hSw; go_simp; try with_reducible rfl
              simp only [Act.put, List.getElem_toArray, List.getElem_cons_zero, List.getElem_cons_succ, List.setIfInBounds_toArray, List.set_cons_zero, List.set_cons_succ]
              refine wpAnyN_take (i := 10) (v := ?v10) rfl (by kernel_rfl) (by kernel_rfl) (by kernel_rfl) (by kernel_rfl) (fun _ _ _ h => h) (Or.inl ⟨by rfl, ?hy10⟩) (by assumption) ?_
              case hy10 => intro w hSw; obtain ⟨a0, a1⟩ := hSw; go_simp; try with_reducible rfl
              simp only [Act.put, List.getElem_toArray, List.getElem_cons_zero, List.getElem_cons_succ, List.setIfInBounds_toArray, List.set_cons_zero, List.set_cons_succ]
              refine wpAnyN_done (by kernel_rfl) ?_ _
              clear hK hpp
              by_cases k1 : p2 = 10
              · subst k1
                have HC := Lib.hid (show valT t = .error (evalC { data := #[105, 110, 116, 95, 111, 118, 101, 114, 102, 108, 111, 119] }) from HP.out.trans (if_pos rfl))
                clear HP
                go_wp2_with fail
                refine (eval51_any _ w3 (by decide)).mono ?_
                rintro e w4 ⟨⟨A4, c4, rfl, ha4⟩, hb4⟩
                have hz4 := hb4.size
                have HB4 := Lib.hid (bNext HB3.out hb4)
                go_wp2_with fail
                refine (raise44_any _ A4 c4 w4).mono ?_
                rintro e w5 ⟨rfl, rfl⟩
                refine ⟨rfl, ?_, HB4.out.alloc (by have := HB4.out.size; omega) _⟩
                rw [HC.out]
                exact ⟨A4, c4, rfl, ha4.keep (fun b hb => Below.heap_alloc _ _ b hb.2) (fun b hb => ⟨by have := hb.1; have := HB3.out.size; omega, by have := hb.2; simp; omega⟩)⟩
              · by_cases k2 : p2 = 11
                · subst k2
                  have HC := Lib.hid (show valT t = .error (evalC { data := #[122, 101, 114, 111, 95, 100, 105, 118, 105, 115, 111, 114] }) from HP.out.trans ((if_neg (by simp)).trans (if_pos rfl)))
                  clear HP
                  go_wp2_with fail
                  refine (eval51_any _ w3 (by decide)).mono ?_
                  rintro e w4 ⟨⟨A4, c4, rfl, ha4⟩, hb4⟩
                  have hz4 := hb4.size
                  have HB4 := Lib.hid (bNext HB3.out hb4)
                  go_wp2_with fail
                  refine (raise44_any _ A4 c4 w4).mono ?_
                  rintro e w5 ⟨rfl, rfl⟩
                  refine ⟨rfl, ?_, HB4.out.alloc (by have := HB4.out.size; omega) _⟩
                  rw [HC.out]
                  exact ⟨A4, c4, rfl, ha4.keep (fun b hb => Below.heap_alloc _ _ b hb.2) (fun b hb => ⟨by have := hb.1; have := HB3.out.size; omega, by have := hb.2; simp; omega⟩)⟩
                · by_cases k3 : p2 = 12
                  · subst k3
                    have HC := Lib.hid (show valT t = .error (evalC { data := #[117, 110, 100, 101, 102, 105, 110, 101, 100] }) from HP.out.trans ((if_neg (by simp)).trans ((if_neg (by simp)).trans (if_pos rfl))))
                    clear HP
                    go_wp2_with fail
                    refine (eval51_any _ w3 (by decide)).mono ?_
                    rintro e w4 ⟨⟨A4, c4, rfl, ha4⟩, hb4⟩
                    have hz4 := hb4.size
                    have HB4 := Lib.hid (bNext HB3.out hb4)
                    go_wp2_with fail
                    refine (raise44_any _ A4 c4 w4).mono ?_
                    rintro e w5 ⟨rfl, rfl⟩
                    refine ⟨rfl, ?_, HB4.out.alloc (by have := HB4.out.size; omega) _⟩
                    rw [HC.out]
                    exact ⟨A4, c4, rfl, ha4.keep (fun b hb => Below.heap_alloc _ _ b hb.2) (fun b hb => ⟨by have := hb.1; have := HB3.out.size; omega, by have := hb.2; simp; omega⟩)⟩
                  · have HC := Lib.hid (show valT t = .ok p1 from HP.out.trans ((if_neg k1).trans ((if_neg k2).trans (if_neg k3))))
                    clear HP
                    go_wp2_with fail
                    refine bodyPost_ret (v := .int .i64 p1) (by simp only [results, Tryz.results24]; go_simp) rfl ⟨?_, HB3.out⟩
                    rw [HC.out]
                    rfl
            · obtain ⟨x, y, rfl⟩ : ∃ x y, vs = [x, y] := by
                match vs, hvl.trans har with
                | [x, y], _ => exact ⟨x, y, rfl⟩
              obtain ⟨g, cap, rfl⟩ := own_some hown (by simp)
              have c0 : w2.cell? ⟨g, 0, none⟩ = some (.int .i64 x) := by
                have h := hown.cells (g := g) rfl 0 (.int .i64 x) rfl
                simpa [Addr.add] using h
              have c1 : w2.cell? ⟨g, 1, none⟩ = some (.int .i64 y) := by
                have h := hown.cells (g := g) rfl 1 (.int .i64 y) rfl
                simpa [Addr.add] using h
              have gl := (hown.lt g rfl).2
              have HX := Lib.hid (hvin x (by simp))
              have HY := Lib.hid (hvin y (by simp))
              have HLEN := Lib.hid hvl
              have HLEN2 := Lib.hid har
              clear hvl har hown hgo hvin
              go_upto_region 13 with fail
              obtain ⟨D, hD⟩ : ∃ X, Hid (X = w2.drew) := ⟨_, rfl⟩
              have hbD : Below w2.heap.size w2 D := by rw [hD.out]; exact bDrewN (Below.refl _ _) 1
              have HBD := Lib.hid hbD
              have hS0 : (fun w' => w'.cell? ⟨q, 2, none⟩ = some (.string t.name) ∧ w'.cell? ⟨g, 0, none⟩ = some (.int .i64 x) ∧ w'.cell? ⟨g, 1, none⟩ = some (.int .i64 y)) D := ⟨(hbD.cell (p := ⟨q, 2, none⟩) el).trans e0, (hbD.cell (p := ⟨g, 0, none⟩) gl).trans c0, (hbD.cell (p := ⟨g, 1, none⟩) gl).trans c1⟩
              have hDz := hbD.size
              have hgD : g < D.heap.size := by omega
              have hqD : q < D.heap.size := by omega
              refine wp_region_N (fun w' => w'.cell? ⟨q, 2, none⟩ = some (.string t.name) ∧ w'.cell? ⟨g, 0, none⟩ = some (.int .i64 x) ∧ w'.cell? ⟨g, 1, none⟩ = some (.int .i64 y)) (fun _ => true) (by kernel_rfl) ?_
              rw [← hD.out]
              clear hD hbD e0 c0 c1
              refine wpAnyN_take (i := 0) (v := ?v11) rfl (by kernel_rfl) (by kernel_rfl) (by kernel_rfl) (by kernel_rfl) (fun _ _ _ h => h) (Or.inl ⟨by rfl, ?hy11⟩) (by assumption) ?_
              case hy11 => intro w hSw; obtain ⟨a0, a1, a2⟩ := hSw; go_simp; try with_reducible rfl
              simp only [Act.put, List.getElem_toArray, List.getElem_cons_zero, List.setIfInBounds_toArray, List.set_cons_zero, List.set_cons_succ]
              refine wpAnyN_take (i := 1) (v := ?v12) rfl (by kernel_rfl) (by kernel_rfl) (by kernel_rfl) (by kernel_rfl) (fun _ _ _ h => h) (Or.inl ⟨by rfl, ?hy12⟩) (by assumption) ?_
              case hy12 => intro w hSw; obtain ⟨a0, a1, a2⟩ := hSw; go_simp; try with_reducible rfl
              simp only [Act.put, List.getElem_toArray, List.getElem_cons_zero, List.getElem_cons_succ, List.setIfInBounds_toArray, List.set_cons_zero, List.set_cons_succ]
              refine wpAnyN_take (i := 2) (v := ?v13) rfl (by kernel_rfl) (by kernel_rfl) (by kernel_rfl) (by kernel_rfl) (fun _ _ _ h => h) (Or.inl ⟨by rfl, ?hy13⟩) (by assumption) ?_
              case hy13 => intro w hSw; obtain ⟨a0, a1, a2⟩ := hSw; go_simp; try with_reducible rfl
              simp only [Act.put, List.getElem_toArray, List.getElem_cons_zero, List.getElem_cons_succ, List.setIfInBounds_toArray, List.set_cons_zero, List.set_cons_succ]
              refine wpAnyN_take (i := 3) (v := ?v14) rfl (by kernel_rfl) (by kernel_rfl) (by kernel_rfl) (by kernel_rfl) (fun _ _ _ h => h) (Or.inl ⟨by rfl, ?hy14⟩) (by assumption) ?_
              case hy14 => intro w hSw; obtain ⟨a0, a1, a2⟩ := hSw; go_simp; try with_reducible rfl
              simp only [Act.put, List.getElem_toArray, List.getElem_cons_zero, List.getElem_cons_succ, List.setIfInBounds_toArray, List.set_cons_zero, List.set_cons_succ]
              refine wpAnyN_take (i := 4) (v := ?v15) rfl (by kernel_rfl) (by kernel_rfl) (by kernel_rfl) (by kernel_rfl) (fun _ _ _ h => h) (Or.inl ⟨by rfl, ?hy15⟩) (by assumption) ?_
              case hy15 => intro w hSw; obtain ⟨a0, a1, a2⟩ := hSw; go_simp; try with_reducible rfl
              simp only [Act.put, List.getElem_toArray, List.getElem_cons_zero, List.getElem_cons_succ, List.setIfInBounds_toArray, List.set_cons_zero, List.set_cons_succ]
              refine wpAnyN_take (i := 5) (v := ?v16) rfl (by kernel_rfl) (by kernel_rfl) (by kernel_rfl) (by kernel_rfl) (fun _ _ _ h => h) (Or.inl ⟨by rfl, ?hy16⟩) (by assumption) ?_
              case hy16 => intro w hSw; obtain ⟨a0, a1, a2⟩ := hSw; go_simp; try with_reducible rfl
              simp only [Act.put, List.getElem_toArray, List.getElem_cons_zero, List.getElem_cons_succ, List.setIfInBounds_toArray, List.set_cons_zero, List.set_cons_succ]
              refine wpAnyN_take (i := 6) (v := ?v17) rfl (by kernel_rfl) (by kernel_rfl) (by kernel_rfl) (by kernel_rfl) (fun _ _ _ h => h) (Or.inl ⟨by rfl, ?hy17⟩) (by assumption) ?_
              case hy17 => intro w hSw; obtain ⟨a0, a1, a2⟩ := hSw; go_simp; try with_reducible rfl
              simp only [Act.put, List.getElem_toArray, List.getElem_cons_zero, List.getElem_cons_succ, List.setIfInBounds_toArray, List.set_cons_zero, List.set_cons_succ]
              refine wpAnyN_take (i := 7) (v := ?v18) rfl (by kernel_rfl) (by kernel_rfl) (by kernel_rfl) (by kernel_rfl) (fun _ _ _ h => h) (Or.inl ⟨by rfl, ?hy18⟩) (by assumption) ?_
              case hy18 => intro w hSw; obtain ⟨a0, a1, a2⟩ := hSw; go_simp; try with_reducible rfl
              simp only [Act.put, List.getElem_toArray, List.getElem_cons_zero, List.getElem_cons_succ, List.setIfInBounds_toArray, List.set_cons_zero, List.set_cons_succ]
              refine wpAnyN_one (i := 8) (by kernel_rfl) rfl (fun K hK => ?_)
              simp only [List.getElem_toArray, List.getElem_cons_zero, List.getElem_cons_succ]
              go_simp
              refine (Binary_any t.name x y HX.out HY.out D).mono ?_
              rintro e w3 ⟨rfl, hb3⟩
              have hS3 : (fun w' => w'.cell? ⟨q, 2, none⟩ = some (.string t.name) ∧ w'.cell? ⟨g, 0, none⟩ = some (.int .i64 x) ∧ w'.cell? ⟨g, 1, none⟩ = some (.int .i64 y)) w3 := ⟨(hb3.cell (p := ⟨q, 2, none⟩) hqD).trans hS0.1, (hb3.cell (p := ⟨g, 0, none⟩) hgD).trans hS0.2.1, (hb3.cell (p := ⟨g, 1, none⟩) hgD).trans hS0.2.2⟩
              have hz3 := hb3.size
              have HB3 := Lib.hid (bNext (bNext HB2.out HBD.out) hb3)
              have HP := Lib.hid (show valT t = valR (binS t.name x y) from HVF.out)
              clear hb3
              obtain ⟨p1, p2, hpp⟩ : ∃ p1 p2, binS t.name x y = (p1, p2) := ⟨_, _, rfl⟩
              rw [hpp] at HP
              rw [hpp, show pair (p1, p2) = .tuple #[.int .i64 p1, .int .i64 p2] from rfl]
              refine hK _ _ (fun _ => hS3) ?_
              (try simp only [Act.put, List.setIfInBounds_toArray, List.set_cons_zero, List.set_cons_succ])
              refine wpAnyN_take (i := 9) (v := ?v19) rfl (by kernel_rfl) (by kernel_rfl) (by kernel_rfl) (by kernel_rfl) (fun _ _ _ h => h) (Or.inl ⟨by rfl, ?hy19⟩) (by assumption) ?_
              case hy19 => intro w hSw; obtain ⟨a0, a1, a2⟩ := hSw; go_simp; try with_reducible rfl
              simp only [Act.put, List.getElem_toArray, List.getElem_cons_zero, List.getElem_cons_succ, List.setIfInBounds_toArray, List.set_cons_zero, List.set_cons_succ]
              refine wpAnyN_take (i := 10) (v := ?v20) rfl (by kernel_rfl) (by kernel_rfl) (by kernel_rfl) (by kernel_rfl) (fun _ _ _ h => h) (Or.inl ⟨by rfl, ?hy20⟩) (by assumption) ?_
              case hy20 => intro w hSw; obtain ⟨a0, a1, a2⟩ := hSw; go_simp; try with_reducible rfl
              simp only [Act.put, List.getElem_toArray, List.getElem_cons_zero, List.getElem_cons_succ, List.setIfInBounds_toArray, List.set_cons_zero, List.set_cons_succ]
              refine wpAnyN_take (i := 11) (v := ?v21) rfl (by kernel_rfl) (by kernel_rfl) (by kernel_rfl) (by kernel_rfl) (fun _ _ _ h => h) (Or.inl ⟨by rfl, ?hy21⟩) (by assumption) ?_
              case hy21 => intro w hSw; obtain ⟨a0, a1, a2⟩ := hSw; go_simp; try with_reducible rfl
              simp only [Act.put, List.getElem_toArray, List.getElem_cons_zero, List.getElem_cons_succ, List.setIfInBounds_toArray, List.set_cons_zero, List.set_cons_succ]
              refine wpAnyN_take (i := 12) (v := ?v22) rfl (by kernel_rfl) (by kernel_rfl) (by kernel_rfl) (by kernel_rfl) (fun _ _ _ h => h) (Or.inl ⟨by rfl, ?hy22⟩) (by assumption) ?_
              case hy22 => intro w hSw; obtain ⟨a0, a1, a2⟩ := hSw; go_simp; try with_reducible rfl
              simp only [Act.put, List.getElem_toArray, List.getElem_cons_zero, List.getElem_cons_succ, List.setIfInBounds_toArray, List.set_cons_zero, List.set_cons_succ]
              refine wpAnyN_take (i := 13) (v := ?v23) rfl (by kernel_rfl) (by kernel_rfl) (by kernel_rfl) (by kernel_rfl) (fun _ _ _ h => h) (Or.inl ⟨by rfl, ?hy23⟩) (by assumption) ?_
              case hy23 => intro w hSw; obtain ⟨a0, a1, a2⟩ := hSw; go_simp; try with_reducible rfl
              simp only [Act.put, List.getElem_toArray, List.getElem_cons_zero, List.getElem_cons_succ, List.setIfInBounds_toArray, List.set_cons_zero, List.set_cons_succ]
              refine wpAnyN_done (by kernel_rfl) ?_ _
              clear hK hpp
              by_cases k1 : p2 = 10
              · subst k1
                have HC := Lib.hid (show valT t = .error (evalC { data := #[105, 110, 116, 95, 111, 118, 101, 114, 102, 108, 111, 119] }) from HP.out.trans (if_pos rfl))
                clear HP
                go_wp2_with fail
                refine (eval51_any _ w3 (by decide)).mono ?_
                rintro e w4 ⟨⟨A4, c4, rfl, ha4⟩, hb4⟩
                have hz4 := hb4.size
                have HB4 := Lib.hid (bNext HB3.out hb4)
                go_wp2_with fail
                refine (raise44_any _ A4 c4 w4).mono ?_
                rintro e w5 ⟨rfl, rfl⟩
                refine ⟨rfl, ?_, HB4.out.alloc (by have := HB4.out.size; omega) _⟩
                rw [HC.out]
                exact ⟨A4, c4, rfl, ha4.keep (fun b hb => Below.heap_alloc _ _ b hb.2) (fun b hb => ⟨by have := hb.1; have := HB3.out.size; omega, by have := hb.2; simp; omega⟩)⟩
              · by_cases k2 : p2 = 11
                · subst k2
                  have HC := Lib.hid (show valT t = .error (evalC { data := #[122, 101, 114, 111, 95, 100, 105, 118, 105, 115, 111, 114] }) from HP.out.trans ((if_neg (by simp)).trans (if_pos rfl)))
                  clear HP
                  go_wp2_with fail
                  refine (eval51_any _ w3 (by decide)).mono ?_
                  rintro e w4 ⟨⟨A4, c4, rfl, ha4⟩, hb4⟩
                  have hz4 := hb4.size
                  have HB4 := Lib.hid (bNext HB3.out hb4)
                  go_wp2_with fail
                  refine (raise44_any _ A4 c4 w4).mono ?_
                  rintro e w5 ⟨rfl, rfl⟩
                  refine ⟨rfl, ?_, HB4.out.alloc (by have := HB4.out.size; omega) _⟩
                  rw [HC.out]
                  exact ⟨A4, c4, rfl, ha4.keep (fun b hb => Below.heap_alloc _ _ b hb.2) (fun b hb => ⟨by have := hb.1; have := HB3.out.size; omega, by have := hb.2; simp; omega⟩)⟩
                · by_cases k3 : p2 = 12
                  · subst k3
                    have HC := Lib.hid (show valT t = .error (evalC { data := #[117, 110, 100, 101, 102, 105, 110, 101, 100] }) from HP.out.trans ((if_neg (by simp)).trans ((if_neg (by simp)).trans (if_pos rfl))))
                    clear HP
                    go_wp2_with fail
                    refine (eval51_any _ w3 (by decide)).mono ?_
                    rintro e w4 ⟨⟨A4, c4, rfl, ha4⟩, hb4⟩
                    have hz4 := hb4.size
                    have HB4 := Lib.hid (bNext HB3.out hb4)
                    go_wp2_with fail
                    refine (raise44_any _ A4 c4 w4).mono ?_
                    rintro e w5 ⟨rfl, rfl⟩
                    refine ⟨rfl, ?_, HB4.out.alloc (by have := HB4.out.size; omega) _⟩
                    rw [HC.out]
                    exact ⟨A4, c4, rfl, ha4.keep (fun b hb => Below.heap_alloc _ _ b hb.2) (fun b hb => ⟨by have := hb.1; have := HB3.out.size; omega, by have := hb.2; simp; omega⟩)⟩
                  · have HC := Lib.hid (show valT t = .ok p1 from HP.out.trans ((if_neg k1).trans ((if_neg k2).trans (if_neg k3))))
                    clear HP
                    go_wp2_with fail
                    refine bodyPost_ret (v := .int .i64 p1) (by simp only [results, Tryz.results24]; go_simp) rfl ⟨?_, HB3.out⟩
                    rw [HC.out]
                    rfl
end Go.Proofs.YtcagaaacfcpoeaaGreat
