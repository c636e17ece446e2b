/-
  The reference's Set.
-/
import Derived.Test.YtpkpffnabcgcbaaPi
namespace Go.Proofs.Ytpkpffnabcgcbaa
open Go.RowKit

theorem get_set_err {s : St} {y : Int} {c : Cl} {e : Int} (h : getV s y = .error e) : setV s y c = .error e ∧ (e = 1 ∨ e = 5) := by
  unfold getV at h
  unfold setV
  split at h
  · rename_i n hn
    split at h
    · rename_i x hx
      split at h
      · rename_i hy
        simp only [hn, hx]
        rw [if_pos hy]
        injection h with h
        exact ⟨by rw [h], .inl h.symm⟩
      · rename_i hy
        split at h
        · cases h
        · rename_i hz
          rw [List.getElem?_eq_none_iff] at hz
          omega
    · rename_i hx
      simp only [hn, hx]
      injection h with h
      exact ⟨by rw [h], .inr h.symm⟩
  · rename_i hn
    simp only [hn]
    injection h with h
    exact ⟨by rw [h], .inr h.symm⟩
theorem get_ok {s : St} {y : Int} {c0 : Cl} (h : getV s y = .ok c0) : ∃ (n j : Nat) (x : En), s.e = (n : Int) + 1 ∧ s.envs[n]? = some x ∧ y = (j : Int) + 1 ∧ j < x.y.length ∧ x.y[j]? = some c0 ∧ ∀ c, setV s y c =
    if protV s < s.e then .ok ⟨s.envs.set n { x with y := x.y.set j c }, s.e, s.chs⟩
        else if 1048576 ≤ protV s then .error 13
        else .ok ⟨s.envs.take (keepN s) ++ [{ x with y := x.y.set j c }], (keepN s : Int) + 1, s.chs⟩ := by
  unfold getV at h
  unfold setV
  split at h
  · rename_i n hn
    split at h
    · rename_i x hx
      split at h
      · cases h
      · rename_i hy
        split at h
        · rename_i c1 hc1
          injection h with h
          subst h
          have hn1 : s.e = (n : Int) + 1 := by
            unfold curN at hn
            split at hn
            · injection hn with hn; omega
            · cases hn
          have hjl := (List.getElem?_eq_some_iff.1 hc1).1
          refine ⟨n, (y - 1).toNat, x, hn1, hx, by omega, hjl, hc1, fun c => ?_⟩
          simp only [hn, hx]
          rw [if_neg hy]
        · cases h
    · cases h
  · cases h
set_option maxHeartbeats 8000000 in
theorem Set_any {B p : Nat} {s : St} {ve vc : Value} {ys : List Value} {cs : List (Value × Value)} (y : Int) (cl : Cl) (w : World) (h : Stk w B p s ve vc ys cs) (G : Good s) :
    Calls Try.prog 47 #[.pointer (some ⟨p, 0, none⟩), .int .i64 y, cl.v] w (RetP B p (foot p ve vc ys cs) (.int .i64 (errOf (setV s y cl))) (stOf s (setV s y cl)) w) := by
  obtain ⟨i1, hi1, hz1, hy1, hb1'⟩ := info_parts info54
  have hn := G.sized.envs
  have hnc := G.sized.chs
  have hny := G.sized.y
  have hBw : B ≤ w.heap.size := Nat.le_of_lt (Nat.lt_of_le_of_lt h.low h.box.lt)
  obtain ⟨W, HW⟩ : ∃ W, Hid (W = w.alloc (.cells #[.int .i64 cl.tag, .int .i64 cl.n] 38)) := ⟨_, rfl⟩
  have hbW : Below w.heap.size w W := by rw [HW.out]; exact bAlloc _ _
  obtain ⟨q5, hq5⟩ : ∃ q, Hid (q = w.heap.size) := ⟨_, rfl⟩
  have hkW : Blk W q5 38 #[.int .i64 cl.tag, .int .i64 cl.n] := by rw [HW.out, hq5.out]; exact Blk.new _ _ _
  have hq5l : w.heap.size ≤ q5 := by rw [hq5.out]; exact Nat.le_refl _
  have HFL := Lib.hid h.foot_lt
  have hs := h.next hbW
  have HGET := Lib.hid (Get_any y W hs G)
  have HS := Lib.hid hs
  have HB := Lib.hid hbW
  have HK := Lib.hid hkW
  obtain ⟨c0, c1, c2⟩ := hs.cells
  have hl := hs.box.lt
  obtain ⟨A', c', rfl, hcap'⟩ := own_form h.chs
  obtain ⟨A, c, rfl, hcap⟩ := own_form h.envs
  clear h hbW hkW hs
  rcases hg : getV s y with ev | cv
  · have hse := get_set_err (c := cl) hg
    rw [hse.1]
    go_enter Try.func47, Try.ntmps47
    go_upto_region 1 with fail
    rw [← HW.out]
    try rw [← hq5.out]
    clear HW
    go_wp2_with fail
    refine HGET.out.mono ?_
    rintro e w1 ⟨rfl, hb1⟩
    rw [hg]
    dsimp only [getT]
    have H1 := Lib.hid (HS.out.next hb1)
    have HB1 := Lib.hid (bNext HB.out hb1)
    have HK1 := Lib.hid (HK.out.next hb1)
    clear hb1 HGET c0 c1 c2 hl
    rcases hse.2 with rfl | rfl
    all_goals
      clear hse
      go_wp2_with fail
      go_ret
      exact ⟨rfl, ⟨_, _, _, _, H1.out.next (bAlloc _ _), fun g hg => .inl hg⟩, Kept.below (bNext HB1.out (bAlloc _ _))⟩
  · obtain ⟨n, j, x, hn1, hx, rfl, hj, hxj, hsv⟩ := get_ok hg
    rw [hsv cl]
    clear hsv hxj
    have hlt := (List.getElem?_eq_some_iff.1 hx).1
    have hxl := hny x (List.mem_of_getElem? hx)
    have hnI : (n : Int) < (s.envs.length : Int) := by omega
    obtain ⟨gE0, capE0, v, e1, hcapE, hyv, hyr, -, -, -, -⟩ := HS.out.enAt hx
    injection e1 with e1 _ e2
    subst e1 e2
    obtain ⟨gy, cy, rfl⟩ := own_head hyr (by omega)
    obtain ⟨Ay', cy', ey, hcy⟩ := own_form hyr
    injection ey with ey1 _ ey2
    subst ey1 ey2
    have HYR := Lib.hid hyr
    clear hyr
    have HN := Lib.hid hn1
    by_cases hpr : protV s < s.e
    · rw [if_pos hpr]
      have hpr' : ¬ (n : Int) + 1 ≤ protV s := by omega
      clear hn1 hpr
      go_enter Try.func47, Try.ntmps47
      go_upto_region 1 with fail
      rw [← HW.out]
      try rw [← hq5.out]
      clear HW
      go_wp2_with fail
      refine HGET.out.mono ?_
      rintro e w1 ⟨rfl, hb1⟩
      rw [hg]
      dsimp only [getT]
      have H1 := Lib.hid (HS.out.next hb1)
      have HB1 := Lib.hid (bNext HB.out hb1)
      have HK1 := Lib.hid (HK.out.next hb1)
      clear hb1 HGET c0 c1 c2 hl
      go_upto_region 6 with fail
      obtain ⟨W2, HW2⟩ : ∃ X, Hid (X = w1.alloc (.cells #[.int .i64 cv.tag, .int .i64 cv.n] 38)) := ⟨_, rfl⟩
      have hb2 : Below w1.heap.size w1 W2 := by rw [HW2.out]; exact bAlloc _ _
      rw [← HW2.out]
      have hs2 := H1.out.next hb2
      have HGT := Lib.hid (Height_any W2 hs2 hnc)
      obtain ⟨c0, c1, c2⟩ := hs2.cells
      have hl := hs2.box.lt
      have H2 := Lib.hid hs2
      have HB2 := Lib.hid (bNext HB1.out hb2)
      have HK2 := Lib.hid (HK1.out.next hb2)
      clear HW2 hb2 hs2 H1 HB1 HK1
      go_wp2_with fail
      refine HGT.out.mono ?_
      rintro e w3 ⟨rfl, hb3⟩
      have hs3 := H2.out.next hb3
      have H3 := Lib.hid hs3
      have HB3 := Lib.hid (bNext HB2.out hb3)
      have HK3 := Lib.hid (HK2.out.next hb3)
      clear hb3 HGT c0 c1 c2 hl H2 HB2 HK2
      obtain ⟨c0, c1, c2⟩ := hs3.cells
      have hl := hs3.box.lt
      clear hs3
      rw [HN.out] at c1
      go_upto_region 12 with fail
      obtain ⟨Xt, HXt⟩ : ∃ X, Hid (X = w3.drew) := ⟨_, rfl⟩
      have hdt : Below w3.heap.size w3 Xt := by rw [HXt.out]; exact bDrew _
      have hst := H3.out.next hdt
      have HT := Lib.hid hst
      have hkt := HK3.out.next hdt
      have b0 := hkt.cell 0
      have b1 := hkt.cell 1
      have bl := hkt.lt
      simp at b0 b1
      obtain ⟨ct0, ct1, ct2⟩ := hst.cells
      have ptl := hst.box.lt
      rw [HN.out] at ct1
      obtain ⟨gE, capE, vE, eE, hcE, hvE, -, -, -, -, t3⟩ := hst.enAt (hx)
      injection eE with eE1 eE2 eE3
      injection eE1 with eE1
      injection eE1 with eE1 _ _
      subst eE1
      clear eE2 eE3 hcE capE
      obtain rfl : vE = .slice (some ⟨gy, 0, none⟩) x.y.length cy := by rw [(hyv)] at hvE; injection hvE with e; exact e.symm
      have hgE := (hst.envs.lt _ rfl).2
      have hrow := hst.yrow n x (.slice (some ⟨gy, 0, none⟩) x.y.length cy) (hx) (hyv)
      have f0 := hrow.frozenAt (j * 2)
      have gl2 := (hrow.lt gy rfl).2
      obtain ⟨xj, hxj⟩ : ∃ xj, x.y[j]? = some xj := ⟨_, List.getElem?_eq_getElem hj⟩
      have z0 := own_cell hrow (cCs_at hxj).1
      have s1 := (hrow.stored (j * 2) (.int .i64 cl.tag)).1
      have f1 := s1.frozenAt (j * 2 + 1)
      have z1 := own_cell (j := j * 2 + 1) (u := .int .i64 xj.n) s1 (by rw [List.getElem?_set_ne (by omega)]; exact (cCs_at hxj).2)
      have hjw : IntKind.i64.wrap (j : Int) = (j : Int) := by rw [IntKind.wrap_i64]; omega
      have hnw : IntKind.i64.wrap ((n : Nat) : Int) = ((n : Nat) : Int) := by rw [IntKind.wrap_i64]; omega
      have hjI : (j : Int) < (x.y.length : Int) := by omega
      have HSET := Lib.hid (hst.setY cl (hx) (hyv) hj)
      clear s1 hrow hxj hvE hst hkt
      refine wp_region_N (fun w' => w' = Xt) (fun j => decide (j < 16)) (by kernel_rfl) ?_
      rw [← HXt.out]
      clear HXt
      have hS0 : (fun w' => w' = Xt) Xt := rfl
      refine wpAnyN_take (i := 0) (v := ?v1) rfl (by kernel_rfl) (by kernel_rfl) (by kernel_rfl) (by kernel_rfl) (fun _ _ _ h => h) (Or.inl ⟨by rfl, ?hy1⟩) (by assumption) ?_
      case hy1 => intro w hSw; obtain rfl := hSw; go_simp; try with_reducible rfl
      simp only [Act.put, List.getElem_toArray, List.getElem_cons_zero, List.setIfInBounds_toArray, List.set_cons_zero, List.set_cons_succ]
      refine wpAnyN_take (i := 1) (v := ?v2) rfl (by kernel_rfl) (by kernel_rfl) (by kernel_rfl) (by kernel_rfl) (fun _ _ _ h => h) (Or.inl ⟨by rfl, ?hy2⟩) (by assumption) ?_
      case hy2 => intro w hSw; obtain rfl := hSw; go_simp; try with_reducible rfl
      simp only [Act.put, List.getElem_toArray, List.getElem_cons_zero, List.getElem_cons_succ, List.setIfInBounds_toArray, List.set_cons_zero, List.set_cons_succ]
      refine wpAnyN_take (i := 2) (v := ?v3) rfl (by kernel_rfl) (by kernel_rfl) (by kernel_rfl) (by kernel_rfl) (fun _ _ _ h => h) (Or.inl ⟨by rfl, ?hy3⟩) (by assumption) ?_
      case hy3 => intro w hSw; obtain rfl := hSw; go_simp; try with_reducible rfl
      simp only [Act.put, List.getElem_toArray, List.getElem_cons_zero, List.getElem_cons_succ, List.setIfInBounds_toArray, List.set_cons_zero, List.set_cons_succ]
      refine wpAnyN_take (i := 3) (v := ?v4) rfl (by kernel_rfl) (by kernel_rfl) (by kernel_rfl) (by kernel_rfl) (fun _ _ _ h => h) (Or.inl ⟨by rfl, ?hy4⟩) (by assumption) ?_
      case hy4 => intro w hSw; obtain rfl := hSw; go_simp; try with_reducible rfl
      simp only [Act.put, List.getElem_toArray, List.getElem_cons_zero, List.getElem_cons_succ, List.setIfInBounds_toArray, List.set_cons_zero, List.set_cons_succ]
      refine wpAnyN_take (i := 4) (v := ?v5) rfl (by kernel_rfl) (by kernel_rfl) (by kernel_rfl) (by kernel_rfl) (fun _ _ _ h => h) (Or.inl ⟨by rfl, ?hy5⟩) (by assumption) ?_
      case hy5 => intro w hSw; obtain rfl := hSw; go_simp; try with_reducible rfl
      simp only [Act.put, List.getElem_toArray, List.getElem_cons_zero, List.getElem_cons_succ, List.setIfInBounds_toArray, List.set_cons_zero, List.set_cons_succ]
      refine wpAnyN_take (i := 5) (v := ?v6) rfl (by kernel_rfl) (by kernel_rfl) (by kernel_rfl) (by kernel_rfl) (fun _ _ _ h => h) (Or.inl ⟨by rfl, ?hy6⟩) (by assumption) ?_
      case hy6 => intro w hSw; obtain rfl := hSw; go_simp; try with_reducible rfl
      simp only [Act.put, List.getElem_toArray, List.getElem_cons_zero, List.getElem_cons_succ, List.setIfInBounds_toArray, List.set_cons_zero, List.set_cons_succ]
      refine wpAnyN_take (i := 6) (v := ?v7) rfl (by kernel_rfl) (by kernel_rfl) (by kernel_rfl) (by kernel_rfl) (fun _ _ _ h => h) (Or.inl ⟨by rfl, ?hy7⟩) (by assumption) ?_
      case hy7 => intro w hSw; obtain rfl := hSw; go_simp; try with_reducible rfl
      simp only [Act.put, List.getElem_toArray, List.getElem_cons_zero, List.getElem_cons_succ, List.setIfInBounds_toArray, List.set_cons_zero, List.set_cons_succ]
      refine wpAnyN_take (i := 7) (v := ?v8) rfl (by kernel_rfl) (by kernel_rfl) (by kernel_rfl) (by kernel_rfl) (fun _ _ _ h => h) (Or.inl ⟨by rfl, ?hy8⟩) (by assumption) ?_
      case hy8 => intro w hSw; obtain rfl := hSw; go_simp; try with_reducible rfl
      simp only [Act.put, List.getElem_toArray, List.getElem_cons_zero, List.getElem_cons_succ, List.setIfInBounds_toArray, List.set_cons_zero, List.set_cons_succ]
      refine wpAnyN_take (i := 8) (v := ?v9) rfl (by kernel_rfl) (by kernel_rfl) (by kernel_rfl) (by kernel_rfl) (fun _ _ _ h => h) (Or.inl ⟨by rfl, ?hy9⟩) (by assumption) ?_
      case hy9 => intro w hSw; obtain rfl := hSw; go_simp; try with_reducible rfl
      simp only [Act.put, List.getElem_toArray, List.getElem_cons_zero, List.getElem_cons_succ, List.setIfInBounds_toArray, List.set_cons_zero, List.set_cons_succ]
      refine wpAnyN_take (i := 9) (v := ?v10) rfl (by kernel_rfl) (by kernel_rfl) (by kernel_rfl) (by kernel_rfl) (fun _ _ _ h => h) (Or.inl ⟨by rfl, ?hy10⟩) (by assumption) ?_
      case hy10 => intro w hSw; obtain rfl := hSw; go_simp; try with_reducible rfl
      simp only [Act.put, List.getElem_toArray, List.getElem_cons_zero, List.getElem_cons_succ, List.setIfInBounds_toArray, List.set_cons_zero, List.set_cons_succ]
      refine wpAnyN_take (i := 10) (v := ?v11) rfl (by kernel_rfl) (by kernel_rfl) (by kernel_rfl) (by kernel_rfl) (fun _ _ _ h => h) (Or.inl ⟨by rfl, ?hy11⟩) (by assumption) ?_
      case hy11 => intro w hSw; obtain rfl := hSw; go_simp; try with_reducible rfl
      simp only [Act.put, List.getElem_toArray, List.getElem_cons_zero, List.getElem_cons_succ, List.setIfInBounds_toArray, List.set_cons_zero, List.set_cons_succ]
      refine wpAnyN_take (i := 11) (v := ?v12) rfl (by kernel_rfl) (by kernel_rfl) (by kernel_rfl) (by kernel_rfl) (fun _ _ _ h => h) (Or.inl ⟨by rfl, ?hy12⟩) (by assumption) ?_
      case hy12 => intro w hSw; obtain rfl := hSw; go_simp; try with_reducible rfl
      simp only [Act.put, List.getElem_toArray, List.getElem_cons_zero, List.getElem_cons_succ, List.setIfInBounds_toArray, List.set_cons_zero, List.set_cons_succ]
      refine wpAnyN_take (i := 12) (v := ?v13) rfl (by kernel_rfl) (by kernel_rfl) (by kernel_rfl) (by kernel_rfl) (fun _ _ _ h => h) (Or.inl ⟨by rfl, ?hy13⟩) (by assumption) ?_
      case hy13 => intro w hSw; obtain rfl := hSw; go_simp; try with_reducible rfl
      simp only [Act.put, List.getElem_toArray, List.getElem_cons_zero, List.getElem_cons_succ, List.setIfInBounds_toArray, List.set_cons_zero, List.set_cons_succ]
      refine wpAnyN_take (i := 13) (v := ?v14) rfl (by kernel_rfl) (by kernel_rfl) (by kernel_rfl) (by kernel_rfl) (fun _ _ _ h => h) (Or.inl ⟨by rfl, ?hy14⟩) (by assumption) ?_
      case hy14 => intro w hSw; obtain rfl := hSw; go_simp; try with_reducible rfl
      simp only [Act.put, List.getElem_toArray, List.getElem_cons_zero, List.getElem_cons_succ, List.setIfInBounds_toArray, List.set_cons_zero, List.set_cons_succ]
      refine wpAnyN_take (i := 14) (v := ?v15) rfl (by kernel_rfl) (by kernel_rfl) (by kernel_rfl) (by kernel_rfl) (fun _ _ _ h => h) (Or.inl ⟨by rfl, ?hy15⟩) (by assumption) ?_
      case hy15 => intro w hSw; obtain rfl := hSw; go_simp; try with_reducible rfl
      simp only [Act.put, List.getElem_toArray, List.getElem_cons_zero, List.getElem_cons_succ, List.setIfInBounds_toArray, List.set_cons_zero, List.set_cons_succ]
      refine wpAnyN_take (i := 15) (v := ?v16) rfl (by kernel_rfl) (by kernel_rfl) (by kernel_rfl) (by kernel_rfl) (fun _ _ _ h => h) (Or.inl ⟨by rfl, ?hy16⟩) (by assumption) ?_
      case hy16 => intro w hSw; obtain rfl := hSw; go_simp; try with_reducible rfl
      simp only [Act.put, List.getElem_toArray, List.getElem_cons_zero, List.getElem_cons_succ, List.setIfInBounds_toArray, List.set_cons_zero, List.set_cons_succ]
      refine wpAnyN_one (i := 16) (by kernel_rfl) rfl (fun K hK => ?_)
      simp only [List.getElem_toArray, List.getElem_cons_zero, List.getElem_cons_succ]
      go_simp
      refine hK _ _ (fun h => absurd h (by decide)) ?_
      (try simp only [Act.put, List.setIfInBounds_toArray, List.set_cons_zero, List.set_cons_succ])
      refine wpAnyN_done (by kernel_rfl) ?_ _
      go_wp2_with fail
      go_ret
      have hgyF : gy ∈ foot p (.slice (some ⟨gE0, 0, none⟩) s.envs.length c) (.slice A' s.chs.length c') ys cs := foot_mem (v := .slice (some ⟨gy, 0, none⟩) x.y.length cy) (by simp [List.mem_of_getElem? hyv]) rfl
      exact ⟨rfl, ⟨_, _, _, _, HSET.out, fun k hk => .inl hk⟩, (Kept.below (bNext HB3.out hdt)).trans (Kept.upd (((Upd.refl gy _).set _ _).set _ _) hgyF)⟩
    · rw [if_neg hpr]
      have hpr' : (n : Int) + 1 ≤ protV s := by omega
      clear hn1 hpr
      by_cases hfull : 1048576 ≤ protV s
      · rw [if_pos hfull]
        go_enter Try.func47, Try.ntmps47
        go_upto_region 1 with fail
        rw [← HW.out]
        try rw [← hq5.out]
        clear HW
        go_wp2_with fail
        refine HGET.out.mono ?_
        rintro e w1 ⟨rfl, hb1⟩
        rw [hg]
        dsimp only [getT]
        have H1 := Lib.hid (HS.out.next hb1)
        have HB1 := Lib.hid (bNext HB.out hb1)
        have HK1 := Lib.hid (HK.out.next hb1)
        clear hb1 HGET c0 c1 c2 hl
        go_upto_region 6 with fail
        obtain ⟨W2, HW2⟩ : ∃ X, Hid (X = w1.alloc (.cells #[.int .i64 cv.tag, .int .i64 cv.n] 38)) := ⟨_, rfl⟩
        have hb2 : Below w1.heap.size w1 W2 := by rw [HW2.out]; exact bAlloc _ _
        rw [← HW2.out]
        have hs2 := H1.out.next hb2
        have HGT := Lib.hid (Height_any W2 hs2 hnc)
        obtain ⟨c0, c1, c2⟩ := hs2.cells
        have hl := hs2.box.lt
        have H2 := Lib.hid hs2
        have HB2 := Lib.hid (bNext HB1.out hb2)
        have HK2 := Lib.hid (HK1.out.next hb2)
        clear HW2 hb2 hs2 H1 HB1 HK1
        go_wp2_with fail
        refine HGT.out.mono ?_
        rintro e w3 ⟨rfl, hb3⟩
        have hs3 := H2.out.next hb3
        have H3 := Lib.hid hs3
        have HB3 := Lib.hid (bNext HB2.out hb3)
        have HK3 := Lib.hid (HK2.out.next hb3)
        clear hb3 HGT c0 c1 c2 hl H2 HB2 HK2
        obtain ⟨c0, c1, c2⟩ := hs3.cells
        have hl := hs3.box.lt
        clear hs3
        rw [HN.out] at c1
        go_wp2_with fail
        go_ret
        exact ⟨rfl, ⟨_, _, _, _, H3.out, fun g hg => .inl hg⟩, Kept.below HB3.out⟩
      · rw [if_neg hfull]
        go_enter Try.func47, Try.ntmps47
        go_upto_region 1 with fail
        rw [← HW.out]
        try rw [← hq5.out]
        clear HW
        go_wp2_with fail
        refine HGET.out.mono ?_
        rintro e w1 ⟨rfl, hb1⟩
        rw [hg]
        dsimp only [getT]
        have H1 := Lib.hid (HS.out.next hb1)
        have HB1 := Lib.hid (bNext HB.out hb1)
        have HK1 := Lib.hid (HK.out.next hb1)
        clear hb1 HGET c0 c1 c2 hl
        go_upto_region 6 with fail
        obtain ⟨W2, HW2⟩ : ∃ X, Hid (X = w1.alloc (.cells #[.int .i64 cv.tag, .int .i64 cv.n] 38)) := ⟨_, rfl⟩
        have hb2 : Below w1.heap.size w1 W2 := by rw [HW2.out]; exact bAlloc _ _
        rw [← HW2.out]
        have hs2 := H1.out.next hb2
        have HGT := Lib.hid (Height_any W2 hs2 hnc)
        obtain ⟨c0, c1, c2⟩ := hs2.cells
        have hl := hs2.box.lt
        have H2 := Lib.hid hs2
        have HB2 := Lib.hid (bNext HB1.out hb2)
        have HK2 := Lib.hid (HK1.out.next hb2)
        clear HW2 hb2 hs2 H1 HB1 HK1
        go_wp2_with fail
        refine HGT.out.mono ?_
        rintro e w3 ⟨rfl, hb3⟩
        have hs3 := H2.out.next hb3
        have H3 := Lib.hid hs3
        have HB3 := Lib.hid (bNext HB2.out hb3)
        have HK3 := Lib.hid (HK2.out.next hb3)
        clear hb3 HGT c0 c1 c2 hl H2 HB2 HK2
        obtain ⟨c0, c1, c2⟩ := hs3.cells
        have hl := hs3.box.lt
        clear hs3
        rw [HN.out] at c1
        have hkeep : keepN s = s.envs.length := G.keep
        have hhigh : (s.envs.length : Int) = protV s := by have := G.high; have := HN.out; omega
        rw [hkeep, List.take_length]
        have HHI := Lib.hid hhigh
        have hpw : IntKind.i64.wrap (protV s + 1) = protV s + 1 := by rw [IntKind.wrap_i64]; omega
        clear hhigh hkeep
        go_upto_region 10 with fail
        obtain ⟨X0, HX⟩ : ∃ X, Hid (X = w3.drew) := ⟨_, rfl⟩
        have hd0 : Below w3.heap.size w3 X0 := by rw [HX.out]; exact bDrew _
        have hs4 := H3.out.next hd0
        have HB4 := Lib.hid (bNext HB3.out hd0)
        have HK4 := Lib.hid (HK3.out.next hd0)
        obtain ⟨gE, capE, vE, eE, hcE, hvE, hyr4, t0, t1, t2, t3⟩ := hs4.enAt hx
        injection eE with eE1 eE2 eE3
        injection eE1 with eE1
        injection eE1 with eE1 _ _
        subst eE1 eE3
        obtain rfl : vE = .slice (some ⟨gy, 0, none⟩) x.y.length cy := by rw [hyv] at hvE; injection hvE with e; exact e.symm
        have hgE := (hs4.envs.lt _ rfl).2
        have hnw : IntKind.i64.wrap (n : Int) = (n : Int) := by rw [IntKind.wrap_i64]; omega
        have hk0 := hs4.box
        rw [HN.out] at hk0
        have HOWN := Lib.hid (ownEnv_any (some ⟨gy, 0, none⟩) cy x X0 hcy (own_cellsAt hyr4) (by omega))
        have H4 := Lib.hid hs4
        clear eE2 hvE hyr4 hs4 H3 HB3 HK3 c0 c1 c2 hl
        refine wp_region_N (fun w' => Blk w' p 25 #[.slice (some ⟨gE0, 0, none⟩) s.envs.length c, .int .i64 ((n : Int) + 1), .slice A' s.chs.length c']) (fun j => decide (j < 19)) (by kernel_rfl) ?_
        rw [← HX.out]
        clear HX hd0
        have hS0 : (fun w' => Blk w' p 25 #[.slice (some ⟨gE0, 0, none⟩) s.envs.length c, .int .i64 ((n : Int) + 1), .slice A' s.chs.length c']) X0 := hk0
        refine wpAnyN_take (i := 0) (v := ?v17) rfl (by kernel_rfl) (by kernel_rfl) (by kernel_rfl) (by kernel_rfl) (fun _ _ _ h => h) (Or.inl ⟨by rfl, ?hy17⟩) (by assumption) ?_
        case hy17 => intro w hSw; have e0 := hSw.cell 0; have e1 := hSw.cell 1; have e2 := hSw.cell 2; have el := hSw.lt; simp at e0 e1 e2; go_simp; try with_reducible rfl
        simp only [Act.put, List.getElem_toArray, List.getElem_cons_zero, List.setIfInBounds_toArray, List.set_cons_zero, List.set_cons_succ]
        refine wpAnyN_take (i := 1) (v := ?v18) rfl (by kernel_rfl) (by kernel_rfl) (by kernel_rfl) (by kernel_rfl) (fun _ _ _ h => h) (Or.inl ⟨by rfl, ?hy18⟩) (by assumption) ?_
        case hy18 => intro w hSw; have e0 := hSw.cell 0; have e1 := hSw.cell 1; have e2 := hSw.cell 2; have el := hSw.lt; simp at e0 e1 e2; go_simp; try with_reducible rfl
        simp only [Act.put, List.getElem_toArray, List.getElem_cons_zero, List.getElem_cons_succ, List.setIfInBounds_toArray, List.set_cons_zero, List.set_cons_succ]
        refine wpAnyN_take (i := 2) (v := ?v19) rfl (by kernel_rfl) (by kernel_rfl) (by kernel_rfl) (by kernel_rfl) (fun _ _ _ h => h) (Or.inl ⟨by rfl, ?hy19⟩) (by assumption) ?_
        case hy19 => intro w hSw; have e0 := hSw.cell 0; have e1 := hSw.cell 1; have e2 := hSw.cell 2; have el := hSw.lt; simp at e0 e1 e2; go_simp; try with_reducible rfl
        simp only [Act.put, List.getElem_toArray, List.getElem_cons_zero, List.getElem_cons_succ, List.setIfInBounds_toArray, List.set_cons_zero, List.set_cons_succ]
        refine wpAnyN_take (i := 3) (v := ?v20) rfl (by kernel_rfl) (by kernel_rfl) (by kernel_rfl) (by kernel_rfl) (fun _ _ _ h => h) (Or.inl ⟨by rfl, ?hy20⟩) (by assumption) ?_
        case hy20 => intro w hSw; have e0 := hSw.cell 0; have e1 := hSw.cell 1; have e2 := hSw.cell 2; have el := hSw.lt; simp at e0 e1 e2; go_simp; try with_reducible rfl
        simp only [Act.put, List.getElem_toArray, List.getElem_cons_zero, List.getElem_cons_succ, List.setIfInBounds_toArray, List.set_cons_zero, List.set_cons_succ]
        refine wpAnyN_take (i := 4) (v := ?v21) rfl (by kernel_rfl) (by kernel_rfl) (by kernel_rfl) (by kernel_rfl) (fun _ _ _ h => h) (Or.inl ⟨by rfl, ?hy21⟩) (by assumption) ?_
        case hy21 => intro w hSw; have e0 := hSw.cell 0; have e1 := hSw.cell 1; have e2 := hSw.cell 2; have el := hSw.lt; simp at e0 e1 e2; go_simp; try with_reducible rfl
        simp only [Act.put, List.getElem_toArray, List.getElem_cons_zero, List.getElem_cons_succ, List.setIfInBounds_toArray, List.set_cons_zero, List.set_cons_succ]
        refine wpAnyN_take (i := 5) (v := ?v22) rfl (by kernel_rfl) (by kernel_rfl) (by kernel_rfl) (by kernel_rfl) (fun _ _ _ h => h) (Or.inl ⟨by rfl, ?hy22⟩) (by assumption) ?_
        case hy22 => intro w hSw; have e0 := hSw.cell 0; have e1 := hSw.cell 1; have e2 := hSw.cell 2; have el := hSw.lt; simp at e0 e1 e2; go_simp; try with_reducible rfl
        simp only [Act.put, List.getElem_toArray, List.getElem_cons_zero, List.getElem_cons_succ, List.setIfInBounds_toArray, List.set_cons_zero, List.set_cons_succ]
        refine wpAnyN_take (i := 6) (v := ?v23) rfl (by kernel_rfl) (by kernel_rfl) (by kernel_rfl) (by kernel_rfl) (fun _ _ _ h => h) (Or.inl ⟨by rfl, ?hy23⟩) (by assumption) ?_
        case hy23 => intro w hSw; have e0 := hSw.cell 0; have e1 := hSw.cell 1; have e2 := hSw.cell 2; have el := hSw.lt; simp at e0 e1 e2; go_simp; try with_reducible rfl
        simp only [Act.put, List.getElem_toArray, List.getElem_cons_zero, List.getElem_cons_succ, List.setIfInBounds_toArray, List.set_cons_zero, List.set_cons_succ]
        refine wpAnyN_take (i := 7) (v := ?v24) rfl (by kernel_rfl) (by kernel_rfl) (by kernel_rfl) (by kernel_rfl) (fun _ _ _ h => h) (Or.inl ⟨by rfl, ?hy24⟩) (by assumption) ?_
        case hy24 => intro w hSw; have e0 := hSw.cell 0; have e1 := hSw.cell 1; have e2 := hSw.cell 2; have el := hSw.lt; simp at e0 e1 e2; go_simp; try with_reducible rfl
        simp only [Act.put, List.getElem_toArray, List.getElem_cons_zero, List.getElem_cons_succ, List.setIfInBounds_toArray, List.set_cons_zero, List.set_cons_succ]
        refine wpAnyN_take (i := 8) (v := ?v25) rfl (by kernel_rfl) (by kernel_rfl) (by kernel_rfl) (by kernel_rfl) (fun _ _ _ h => h) (Or.inl ⟨by rfl, ?hy25⟩) (by assumption) ?_
        case hy25 => intro w hSw; have e0 := hSw.cell 0; have e1 := hSw.cell 1; have e2 := hSw.cell 2; have el := hSw.lt; simp at e0 e1 e2; go_simp; try with_reducible rfl
        simp only [Act.put, List.getElem_toArray, List.getElem_cons_zero, List.getElem_cons_succ, List.setIfInBounds_toArray, List.set_cons_zero, List.set_cons_succ]
        refine wpAnyN_take (i := 9) (v := ?v26) rfl (by kernel_rfl) (by kernel_rfl) (by kernel_rfl) (by kernel_rfl) (fun _ _ _ h => h) (Or.inl ⟨by rfl, ?hy26⟩) (by assumption) ?_
        case hy26 => intro w hSw; have e0 := hSw.cell 0; have e1 := hSw.cell 1; have e2 := hSw.cell 2; have el := hSw.lt; simp at e0 e1 e2; go_simp; try with_reducible rfl
        simp only [Act.put, List.getElem_toArray, List.getElem_cons_zero, List.getElem_cons_succ, List.setIfInBounds_toArray, List.set_cons_zero, List.set_cons_succ]
        refine wpAnyN_take (i := 10) (v := ?v27) rfl (by kernel_rfl) (by kernel_rfl) (by kernel_rfl) (by kernel_rfl) (fun _ _ _ h => h) (Or.inl ⟨by rfl, ?hy27⟩) (by assumption) ?_
        case hy27 => intro w hSw; have e0 := hSw.cell 0; have e1 := hSw.cell 1; have e2 := hSw.cell 2; have el := hSw.lt; simp at e0 e1 e2; go_simp; try with_reducible rfl
        simp only [Act.put, List.getElem_toArray, List.getElem_cons_zero, List.getElem_cons_succ, List.setIfInBounds_toArray, List.set_cons_zero, List.set_cons_succ]
        refine wpAnyN_take (i := 11) (v := ?v28) rfl (by kernel_rfl) (by kernel_rfl) (by kernel_rfl) (by kernel_rfl) (fun _ _ _ h => h) (Or.inl ⟨by rfl, ?hy28⟩) (by assumption) ?_
        case hy28 => intro w hSw; have e0 := hSw.cell 0; have e1 := hSw.cell 1; have e2 := hSw.cell 2; have el := hSw.lt; simp at e0 e1 e2; go_simp; try with_reducible rfl
        simp only [Act.put, List.getElem_toArray, List.getElem_cons_zero, List.getElem_cons_succ, List.setIfInBounds_toArray, List.set_cons_zero, List.set_cons_succ]
        refine wpAnyN_take (i := 12) (v := ?v29) rfl (by kernel_rfl) (by kernel_rfl) (by kernel_rfl) (by kernel_rfl) (fun _ _ _ h => h) (Or.inl ⟨by rfl, ?hy29⟩) (by assumption) ?_
        case hy29 => intro w hSw; have e0 := hSw.cell 0; have e1 := hSw.cell 1; have e2 := hSw.cell 2; have el := hSw.lt; simp at e0 e1 e2; go_simp; try with_reducible rfl
        simp only [Act.put, List.getElem_toArray, List.getElem_cons_zero, List.getElem_cons_succ, List.setIfInBounds_toArray, List.set_cons_zero, List.set_cons_succ]
        refine wpAnyN_take (i := 13) (v := ?v30) rfl (by kernel_rfl) (by kernel_rfl) (by kernel_rfl) (by kernel_rfl) (fun _ _ _ h => h) (Or.inl ⟨by rfl, ?hy30⟩) (by assumption) ?_
        case hy30 => intro w hSw; have e0 := hSw.cell 0; have e1 := hSw.cell 1; have e2 := hSw.cell 2; have el := hSw.lt; simp at e0 e1 e2; go_simp; try with_reducible rfl
        simp only [Act.put, List.getElem_toArray, List.getElem_cons_zero, List.getElem_cons_succ, List.setIfInBounds_toArray, List.set_cons_zero, List.set_cons_succ]
        refine wpAnyN_one (i := 14) (by kernel_rfl) rfl (fun K hK => ?_)
        simp only [List.getElem_toArray, List.getElem_cons_zero, List.getElem_cons_succ]
        go_simp
        refine hK _ _ (fun _ => hS0) ?_
        (try simp only [Act.put, List.setIfInBounds_toArray, List.set_cons_zero, List.set_cons_succ])
        refine wpAnyN_one (i := 15) (by kernel_rfl) rfl (fun K hK => ?_)
        simp only [List.getElem_toArray, List.getElem_cons_zero, List.getElem_cons_succ]
        go_simp
        refine hK _ _ (fun _ => hS0) ?_
        (try simp only [Act.put, List.setIfInBounds_toArray, List.set_cons_zero, List.set_cons_succ])
        refine wpAnyN_one (i := 16) (by kernel_rfl) rfl (fun K hK => ?_)
        simp only [List.getElem_toArray, List.getElem_cons_zero, List.getElem_cons_succ]
        go_simp
        refine HOWN.out.mono ?_
        rintro e w5 ⟨⟨v3, rfl, hv3⟩, hb5⟩
        obtain ⟨A3, d3, rfl, -⟩ := own_form hv3
        have HV3 := Lib.hid hv3
        have H5 := Lib.hid (H4.out.next hb5)
        have HB5 := Lib.hid (bNext HB4.out hb5)
        have HK5 := Lib.hid (HK4.out.next hb5)
        have hS1 : (fun w' => Blk w' p 25 #[.slice (some ⟨gE0, 0, none⟩) s.envs.length c, .int .i64 ((n : Int) + 1), .slice A' s.chs.length c']) w5 := hk0.next hb5
        clear hb5 hv3 HOWN H4 HK4 t0 t1 t2 t3
        refine hK _ _ (fun _ => hS1) ?_
        (try simp only [Act.put, List.setIfInBounds_toArray, List.set_cons_zero, List.set_cons_succ])
        refine wpAnyN_one (i := 17) (by kernel_rfl) rfl (fun K hK => ?_)
        simp only [List.getElem_toArray, List.getElem_cons_zero, List.getElem_cons_succ]
        go_simp
        refine hK _ _ (fun _ => hS1.alloc _) ?_
        (try simp only [Act.put, List.setIfInBounds_toArray, List.set_cons_zero, List.set_cons_succ])
        refine wpAnyN_one (i := 18) (by kernel_rfl) rfl (fun K hK => ?_)
        simp only [List.getElem_toArray, List.getElem_cons_zero, List.getElem_cons_succ]
        rw [if_pos (by rfl)]
        have hX5 : B ≤ w5.heap.size := Nat.le_trans hBw HB5.out.size
        have hblk := Blk.new w5 54 #[.int .i64 x.prev, .int .i64 x.id, .int .i64 x.pc, .slice A3 x.y.length d3]
        refine wp_append_lies _ (.tmp 39) (.tmp 52) 22 rfl B 54 i1 _ 4 48 Try.underlying22 hi1 hz1 hy1 hb1' rfl (by decide) (.slice (some ⟨gE0, 0, none⟩) s.envs.length c) s.envs.length (eCs s.envs ys) rfl (H5.out.envs.alloc _) ⟨w5.heap.size, 0, none⟩ 1 1 (eCs [x] [.slice A3 x.y.length d3]) rfl ?c1 ?c2 ?c3 (by omega) ?c4 ?c5 ?c6 _ rfl ?_
        case c1 => rfl
        case c2 =>
          intro i u hi
          have h := hblk.cell i
          have e : (⟨w5.heap.size, 0, none⟩ : Addr).add i = ⟨w5.heap.size, i, none⟩ := by cases i <;> simp [Addr.add]
          rw [e]
          exact h.trans (by simpa [eCs] using hi)
        case c3 =>
          intro u hu
          simp only [eCs, List.mem_cons, List.not_mem_nil, or_false] at hu
          rcases hu with rfl | rfl | rfl | rfl <;> rfl
        case c4 => unfold maxLen; omega
        case c5 => omega
        case c6 => simp; omega
        intro gD e8 w8 ho8 hg8 hat8 hlt8
        have hgp : Value.ownBlock (.slice (some ⟨gE0, 0, none⟩) s.envs.length c) ≠ some p := fun e => own_ne H5.out.envs H5.out.box (by decide) e rfl
        have k8 : Blk w8 p 25 _ := Blk.grown (w := w5.alloc (.cells #[.int .i64 x.prev, .int .i64 x.id, .int .i64 x.pc, .slice A3 x.y.length d3] 54)) (H5.out.box.alloc _) hg8 hgp
        rw [HN.out] at k8
        have f0 := k8.frozen 0
        have g0 := k8.cell 0
        have l8 := k8.lt
        simp at g0
        refine hK _ _ (fun _ => k8) ?_
        (try simp only [Act.put, List.setIfInBounds_toArray, List.set_cons_zero, List.set_cons_succ])
        refine wpAnyN_one (i := 19) (by kernel_rfl) rfl (fun K hK => ?_)
        simp only [List.getElem_toArray, List.getElem_cons_zero, List.getElem_cons_succ]
        go_simp
        refine hK _ _ (fun h => absurd h (by decide)) ?_
        (try simp only [Act.put, List.setIfInBounds_toArray, List.set_cons_zero, List.set_cons_succ])
        refine wpAnyN_one (i := 20) (by kernel_rfl) rfl (fun K hK => ?_)
        simp only [List.getElem_toArray, List.getElem_cons_zero, List.getElem_cons_succ]
        go_simp
        refine hK _ _ (fun h => absurd h (by decide)) ?_
        (try simp only [Act.put, List.setIfInBounds_toArray, List.set_cons_zero, List.set_cons_succ])
        refine wpAnyN_one (i := 21) (by kernel_rfl) rfl (fun K hK => ?_)
        simp only [List.getElem_toArray, List.getElem_cons_zero, List.getElem_cons_succ]
        go_simp
        refine hK _ _ (fun h => absurd h (by decide)) ?_
        (try simp only [Act.put, List.setIfInBounds_toArray, List.set_cons_zero, List.set_cons_succ])
        refine wpAnyN_done (by kernel_rfl) ?_ _
        have hbF := k8.set_ 0 (.slice (some ⟨gD, 0, none⟩) (s.envs.length + 1) e8)
        have huF := (Upd.refl p w8).set 0 (.slice (some ⟨gD, 0, none⟩) (s.envs.length + 1) e8)
        obtain ⟨W9, HW9⟩ : ∃ X, Hid (X = w8.setCell ⟨p, 0, none⟩ (.slice (some ⟨gD, 0, none⟩) (s.envs.length + 1) e8)) := ⟨_, rfl⟩
        rw [← HW9.out] at hbF huF ⊢
        clear HW9
        have hz : ∀ i, i < w5.heap.size → i ≠ p → some i ≠ Value.ownBlock (.slice (some ⟨gE0, 0, none⟩) s.envs.length c) → W9.heap[i]? = w5.heap[i]? := fun i h1 h2 h3 =>
          (huF.block i h2).trans ((hg8.block i (by simp; omega) h3).trans (Below.heap_alloc w5 _ i h1))
        have hrow : ∀ {t size n B' : Nat} {v : Value} {xs : List Value}, w5.ownsRow B' t size v n xs → t ≠ 25 → t ≠ 54 → W9.ownsRow B' t size v n xs := fun h1 t1 t2 =>
          own_stay h1 fun i hi => hz i (h1.lt i hi).2 (own_ne h1 H5.out.box t1 hi) (own_apart h1 H5.out.envs t2 hi)
        have h3w : ∀ i, Value.ownBlock (.slice A3 x.y.length d3) = some i → w.heap.size ≤ i := fun i hi => Nat.le_trans HB4.out.size (HV3.out.lt i hi).1
        have hbF' : Blk W9 p 25 #[.slice (some ⟨gD, 0, none⟩) (s.envs.length + 1) e8, .int .i64 s.e, .slice A' s.chs.length c'] := by rw [HN.out]; simpa using hbF
        have hP := H5.out.allocated (w' := W9) (x := x) (vy := .slice A3 x.y.length d3) (ve' := .slice (some ⟨gD, 0, none⟩) (s.envs.length + 1) e8) (e := s.e) (b := w.heap.size) HFL.out
          (fun v hv k hk => by
            obtain ⟨t, size, l, xs, h1, t1, t2⟩ := H5.out.typedE hv
            exact hz k (h1.lt k hk).2 (own_ne h1 H5.out.box t1 hk) (own_apart h1 H5.out.envs t2 hk))
          hbF' (own_stay ho8 fun k hk => huF.block k (own_ne ho8 k8 (by decide) hk)) (own_base (hrow HV3.out (by decide) (by decide)) (Nat.le_trans hBw HB4.out.size)) h3w
        have hsub : ∀ k ∈ foot p (.slice (some ⟨gD, 0, none⟩) (s.envs.length + 1) e8) (.slice A' s.chs.length c') (ys ++ [.slice A3 x.y.length d3]) cs, k ∈ foot p (.slice (some ⟨gE0, 0, none⟩) s.envs.length c) (.slice A' s.chs.length c') ys cs ∨ w.heap.size ≤ k := fun k hk => by
          rcases List.mem_cons.1 hk with rfl | hk
          · exact .inl List.mem_cons_self
          · obtain ⟨v, hv, e⟩ := List.mem_filterMap.1 hk
            simp only [List.cons_append, List.mem_cons, List.mem_append, List.not_mem_nil, or_false] at hv
            rcases hv with rfl | rfl | (((hv | rfl) | hv) | hv)
            · have e : gD = k := by simpa [Value.ownBlock] using e
              subst e
              rcases hat8 with h8 | h8
              · exact .inl (foot_mem (v := .slice (some ⟨gE0, 0, none⟩) s.envs.length c) (by simp) h8)
              · simp at h8
                exact .inr (by have := HB5.out.size; omega)
            · exact .inl (foot_mem (by simp) e)
            · exact .inl (foot_mem (by simp [hv]) e)
            · exact .inr (h3w k e)
            · exact .inl (foot_mem (List.mem_append_left _ (List.mem_append_right _ hv)) e)
            · exact .inl (foot_mem (List.mem_append_right _ hv) e)
        have hKF : Kept (foot p (.slice (some ⟨gE0, 0, none⟩) s.envs.length c) (.slice A' s.chs.length c') ys cs) w W9 := by
          refine ⟨huF.os.trans (hg8.os.trans HB5.out.os), huF.tape.trans (hg8.tape.trans HB5.out.tape), huF.output.trans (hg8.output.trans HB5.out.output), ?_, fun i hi hf => (hz i (Nat.lt_of_lt_of_le hi HB5.out.size) (fun e => hf (e ▸ List.mem_cons_self)) (fun e => hf (foot_mem (by simp) e.symm))).trans (HB5.out.block i hi)⟩
          rw [huF.size]
          have h1 := hg8.size
          have h2 := HB5.out.size
          simp at h1
          omega
        have HKP := Lib.hid (show Blk W9 q5 38 _ from (hz q5 HK5.out.lt (by have := HFL.out p List.mem_cons_self; omega) (fun e => by have := HFL.out q5 (foot_mem (by simp) e.symm); omega)).trans HK5.out)
        have HP := Lib.hid hP
        have HSUB := Lib.hid hsub
        have HKF := Lib.hid hKF
        have c1 := hbF.cell 1
        have HBF := Lib.hid hbF
        have H3l := Lib.hid H5.out.ylen
        have fr1 := hbF.frozen 1
        have pl := hbF.lt
        simp at c1
        clear hP hKF hsub hrow hz hbF hbF' huF k8 ho8 hg8 hat8 hS0 hS1 hblk f0 g0 l8 hk0 H5 HK5
        go_upto_region 12 with fail
        obtain ⟨WF, HWF⟩ : ∃ X, Hid (X = W9.setCell ⟨p, 1, none⟩ (.int .i64 (protV s + 1))) := ⟨_, rfl⟩
        have huG := (Upd.refl p W9).set 1 (.int .i64 (protV s + 1))
        have hbG := HBF.out.set_ 1 (.int .i64 (protV s + 1))
        rw [← HWF.out] at huG hbG ⊢
        clear HWF c1 fr1 pl
        have hPF := HP.out.boxE huG (e := protV s + 1) (by simpa using hbG)
        have hKPF : Blk WF q5 38 #[.int .i64 cl.tag, .int .i64 cl.n] := (huG.block q5 (by have := HFL.out p List.mem_cons_self; omega)).trans HKP.out
        obtain ⟨gy', d4, ey⟩ := own_head HV3.out (by omega)
        injection ey with ey1 _ ey2
        subst ey1 ey2
        have hyl := H3l.out
        have hxm : (s.envs ++ [x])[s.envs.length]? = some x := by rw [List.getElem?_append_right (Nat.le_refl _), Nat.sub_self]; rfl
        have hym : (ys ++ [Value.slice (some ⟨gy', 0, none⟩) x.y.length d3])[s.envs.length]? = some (.slice (some ⟨gy', 0, none⟩) x.y.length d3) := by
          rw [List.getElem?_append_right (by omega), hyl, Nat.sub_self]; rfl
        have hgy3 := h3w gy' rfl
        rw [← HHI.out] at hPF
        have HPF := Lib.hid hPF
        have HKPF := Lib.hid hKPF
        have HUG := Lib.hid huG
        have hll : (s.envs.length : Int) < (s.envs.length : Int) + 1 := by omega
        clear hPF hKPF huG hbG
        obtain ⟨Xt, HXt⟩ : ∃ X, Hid (X = WF.drew) := ⟨_, rfl⟩
        have hdt : Below WF.heap.size WF Xt := by rw [HXt.out]; exact bDrew _
        have hst := HPF.out.next hdt
        have HT := Lib.hid hst
        have hkt := HKPF.out.next hdt
        have b0 := hkt.cell 0
        have b1 := hkt.cell 1
        have bl := hkt.lt
        simp at b0 b1
        obtain ⟨ct0, ct1, ct2⟩ := hst.cells
        have ptl := hst.box.lt
        obtain ⟨gE, capE, vE, eE, hcE, hvE, -, -, -, -, t3⟩ := hst.enAt (hxm)
        injection eE with eE1 eE2 eE3
        injection eE1 with eE1
        injection eE1 with eE1 _ _
        subst eE1
        clear eE2 eE3 hcE capE
        obtain rfl : vE = .slice (some ⟨gy', 0, none⟩) x.y.length d3 := by rw [(hym)] at hvE; injection hvE with e; exact e.symm
        have hgE := (hst.envs.lt _ rfl).2
        have hrow := hst.yrow s.envs.length x (.slice (some ⟨gy', 0, none⟩) x.y.length d3) (hxm) (hym)
        have f0 := hrow.frozenAt (j * 2)
        have gl2 := (hrow.lt gy' rfl).2
        obtain ⟨xj, hxj⟩ : ∃ xj, x.y[j]? = some xj := ⟨_, List.getElem?_eq_getElem hj⟩
        have z0 := own_cell hrow (cCs_at hxj).1
        have s1 := (hrow.stored (j * 2) (.int .i64 cl.tag)).1
        have f1 := s1.frozenAt (j * 2 + 1)
        have z1 := own_cell (j := j * 2 + 1) (u := .int .i64 xj.n) s1 (by rw [List.getElem?_set_ne (by omega)]; exact (cCs_at hxj).2)
        have hjw : IntKind.i64.wrap (j : Int) = (j : Int) := by rw [IntKind.wrap_i64]; omega
        have hnw : IntKind.i64.wrap ((s.envs.length : Nat) : Int) = ((s.envs.length : Nat) : Int) := by rw [IntKind.wrap_i64]; omega
        have hjI : (j : Int) < (x.y.length : Int) := by omega
        have HSET := Lib.hid (hst.setY cl (hxm) (hym) hj)
        clear s1 hrow hxj hvE hst hkt
        refine wp_region_N (fun w' => w' = Xt) (fun j => decide (j < 16)) (by kernel_rfl) ?_
        rw [← HXt.out]
        clear HXt
        have hS0 : (fun w' => w' = Xt) Xt := rfl
        refine wpAnyN_take (i := 0) (v := ?w31) rfl (by kernel_rfl) (by kernel_rfl) (by kernel_rfl) (by kernel_rfl) (fun _ _ _ h => h) (Or.inl ⟨by rfl, ?hy31⟩) (by assumption) ?_
        case hy31 => intro w hSw; obtain rfl := hSw; go_simp; try with_reducible rfl
        simp only [Act.put, List.getElem_toArray, List.getElem_cons_zero, List.setIfInBounds_toArray, List.set_cons_zero, List.set_cons_succ]
        refine wpAnyN_take (i := 1) (v := ?w32) rfl (by kernel_rfl) (by kernel_rfl) (by kernel_rfl) (by kernel_rfl) (fun _ _ _ h => h) (Or.inl ⟨by rfl, ?hy32⟩) (by assumption) ?_
        case hy32 => intro w hSw; obtain rfl := hSw; go_simp; try with_reducible rfl
        simp only [Act.put, List.getElem_toArray, List.getElem_cons_zero, List.getElem_cons_succ, List.setIfInBounds_toArray, List.set_cons_zero, List.set_cons_succ]
        refine wpAnyN_take (i := 2) (v := ?w33) rfl (by kernel_rfl) (by kernel_rfl) (by kernel_rfl) (by kernel_rfl) (fun _ _ _ h => h) (Or.inl ⟨by rfl, ?hy33⟩) (by assumption) ?_
        case hy33 => intro w hSw; obtain rfl := hSw; go_simp; try with_reducible rfl
        simp only [Act.put, List.getElem_toArray, List.getElem_cons_zero, List.getElem_cons_succ, List.setIfInBounds_toArray, List.set_cons_zero, List.set_cons_succ]
        refine wpAnyN_take (i := 3) (v := ?w34) rfl (by kernel_rfl) (by kernel_rfl) (by kernel_rfl) (by kernel_rfl) (fun _ _ _ h => h) (Or.inl ⟨by rfl, ?hy34⟩) (by assumption) ?_
        case hy34 => intro w hSw; obtain rfl := hSw; go_simp; try with_reducible rfl
        simp only [Act.put, List.getElem_toArray, List.getElem_cons_zero, List.getElem_cons_succ, List.setIfInBounds_toArray, List.set_cons_zero, List.set_cons_succ]
        refine wpAnyN_take (i := 4) (v := ?w35) rfl (by kernel_rfl) (by kernel_rfl) (by kernel_rfl) (by kernel_rfl) (fun _ _ _ h => h) (Or.inl ⟨by rfl, ?hy35⟩) (by assumption) ?_
        case hy35 => intro w hSw; obtain rfl := hSw; go_simp; try with_reducible rfl
        simp only [Act.put, List.getElem_toArray, List.getElem_cons_zero, List.getElem_cons_succ, List.setIfInBounds_toArray, List.set_cons_zero, List.set_cons_succ]
        refine wpAnyN_take (i := 5) (v := ?w36) rfl (by kernel_rfl) (by kernel_rfl) (by kernel_rfl) (by kernel_rfl) (fun _ _ _ h => h) (Or.inl ⟨by rfl, ?hy36⟩) (by assumption) ?_
        case hy36 => intro w hSw; obtain rfl := hSw; go_simp; try with_reducible rfl
        simp only [Act.put, List.getElem_toArray, List.getElem_cons_zero, List.getElem_cons_succ, List.setIfInBounds_toArray, List.set_cons_zero, List.set_cons_succ]
        refine wpAnyN_take (i := 6) (v := ?w37) rfl (by kernel_rfl) (by kernel_rfl) (by kernel_rfl) (by kernel_rfl) (fun _ _ _ h => h) (Or.inl ⟨by rfl, ?hy37⟩) (by assumption) ?_
        case hy37 => intro w hSw; obtain rfl := hSw; go_simp; try with_reducible rfl
        simp only [Act.put, List.getElem_toArray, List.getElem_cons_zero, List.getElem_cons_succ, List.setIfInBounds_toArray, List.set_cons_zero, List.set_cons_succ]
        refine wpAnyN_take (i := 7) (v := ?w38) rfl (by kernel_rfl) (by kernel_rfl) (by kernel_rfl) (by kernel_rfl) (fun _ _ _ h => h) (Or.inl ⟨by rfl, ?hy38⟩) (by assumption) ?_
        case hy38 => intro w hSw; obtain rfl := hSw; go_simp; try with_reducible rfl
        simp only [Act.put, List.getElem_toArray, List.getElem_cons_zero, List.getElem_cons_succ, List.setIfInBounds_toArray, List.set_cons_zero, List.set_cons_succ]
        refine wpAnyN_take (i := 8) (v := ?w39) rfl (by kernel_rfl) (by kernel_rfl) (by kernel_rfl) (by kernel_rfl) (fun _ _ _ h => h) (Or.inl ⟨by rfl, ?hy39⟩) (by assumption) ?_
        case hy39 => intro w hSw; obtain rfl := hSw; go_simp; try with_reducible rfl
        simp only [Act.put, List.getElem_toArray, List.getElem_cons_zero, List.getElem_cons_succ, List.setIfInBounds_toArray, List.set_cons_zero, List.set_cons_succ]
        refine wpAnyN_take (i := 9) (v := ?w40) rfl (by kernel_rfl) (by kernel_rfl) (by kernel_rfl) (by kernel_rfl) (fun _ _ _ h => h) (Or.inl ⟨by rfl, ?hy40⟩) (by assumption) ?_
        case hy40 => intro w hSw; obtain rfl := hSw; go_simp; try with_reducible rfl
        simp only [Act.put, List.getElem_toArray, List.getElem_cons_zero, List.getElem_cons_succ, List.setIfInBounds_toArray, List.set_cons_zero, List.set_cons_succ]
        refine wpAnyN_take (i := 10) (v := ?w41) rfl (by kernel_rfl) (by kernel_rfl) (by kernel_rfl) (by kernel_rfl) (fun _ _ _ h => h) (Or.inl ⟨by rfl, ?hy41⟩) (by assumption) ?_
        case hy41 => intro w hSw; obtain rfl := hSw; go_simp; try with_reducible rfl
        simp only [Act.put, List.getElem_toArray, List.getElem_cons_zero, List.getElem_cons_succ, List.setIfInBounds_toArray, List.set_cons_zero, List.set_cons_succ]
        refine wpAnyN_take (i := 11) (v := ?w42) rfl (by kernel_rfl) (by kernel_rfl) (by kernel_rfl) (by kernel_rfl) (fun _ _ _ h => h) (Or.inl ⟨by rfl, ?hy42⟩) (by assumption) ?_
        case hy42 => intro w hSw; obtain rfl := hSw; go_simp; try with_reducible rfl
        simp only [Act.put, List.getElem_toArray, List.getElem_cons_zero, List.getElem_cons_succ, List.setIfInBounds_toArray, List.set_cons_zero, List.set_cons_succ]
        refine wpAnyN_take (i := 12) (v := ?w43) rfl (by kernel_rfl) (by kernel_rfl) (by kernel_rfl) (by kernel_rfl) (fun _ _ _ h => h) (Or.inl ⟨by rfl, ?hy43⟩) (by assumption) ?_
        case hy43 => intro w hSw; obtain rfl := hSw; go_simp; try with_reducible rfl
        simp only [Act.put, List.getElem_toArray, List.getElem_cons_zero, List.getElem_cons_succ, List.setIfInBounds_toArray, List.set_cons_zero, List.set_cons_succ]
        refine wpAnyN_take (i := 13) (v := ?w44) rfl (by kernel_rfl) (by kernel_rfl) (by kernel_rfl) (by kernel_rfl) (fun _ _ _ h => h) (Or.inl ⟨by rfl, ?hy44⟩) (by assumption) ?_
        case hy44 => intro w hSw; obtain rfl := hSw; go_simp; try with_reducible rfl
        simp only [Act.put, List.getElem_toArray, List.getElem_cons_zero, List.getElem_cons_succ, List.setIfInBounds_toArray, List.set_cons_zero, List.set_cons_succ]
        refine wpAnyN_take (i := 14) (v := ?w45) rfl (by kernel_rfl) (by kernel_rfl) (by kernel_rfl) (by kernel_rfl) (fun _ _ _ h => h) (Or.inl ⟨by rfl, ?hy45⟩) (by assumption) ?_
        case hy45 => intro w hSw; obtain rfl := hSw; go_simp; try with_reducible rfl
        simp only [Act.put, List.getElem_toArray, List.getElem_cons_zero, List.getElem_cons_succ, List.setIfInBounds_toArray, List.set_cons_zero, List.set_cons_succ]
        refine wpAnyN_take (i := 15) (v := ?w46) rfl (by kernel_rfl) (by kernel_rfl) (by kernel_rfl) (by kernel_rfl) (fun _ _ _ h => h) (Or.inl ⟨by rfl, ?hy46⟩) (by assumption) ?_
        case hy46 => intro w hSw; obtain rfl := hSw; go_simp; try with_reducible rfl
        simp only [Act.put, List.getElem_toArray, List.getElem_cons_zero, List.getElem_cons_succ, List.setIfInBounds_toArray, List.set_cons_zero, List.set_cons_succ]
        refine wpAnyN_one (i := 16) (by kernel_rfl) rfl (fun K hK => ?_)
        simp only [List.getElem_toArray, List.getElem_cons_zero, List.getElem_cons_succ]
        go_simp
        refine hK _ _ (fun h => absurd h (by decide)) ?_
        (try simp only [Act.put, List.setIfInBounds_toArray, List.set_cons_zero, List.set_cons_succ])
        refine wpAnyN_done (by kernel_rfl) ?_ _
        go_wp2_with fail
        go_ret
        have e9 : (s.envs ++ [x]).set s.envs.length { x with y := x.y.set j cl } = s.envs ++ [{ x with y := x.y.set j cl }] := by
          rw [List.set_append_right _ _ (Nat.le_refl _), Nat.sub_self]
          rfl
        have hF := HSET.out
        rw [e9] at hF
        have e10 : (⟨s.envs.take (keepN s) ++ [{ x with y := x.y.set j cl }], (keepN s : Int) + 1, s.chs⟩ : St) = ⟨s.envs ++ [{ x with y := x.y.set j cl }], (s.envs.length : Int) + 1, s.chs⟩ := by rw [G.keep, List.take_length]
        rw [← e10] at hF
        exact ⟨rfl, ⟨_, _, _, _, hF, HSUB.out⟩, ((HKF.out.trans (Kept.upd HUG.out List.mem_cons_self)).trans (Kept.below hdt)).updNew (((Upd.refl gy' _).set _ _).set _ _) hgy3⟩
end Go.Proofs.Ytpkpffnabcgcbaa
