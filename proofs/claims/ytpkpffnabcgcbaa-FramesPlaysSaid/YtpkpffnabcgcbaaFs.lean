/-
  The walk of Set.
-/
import Derived.Test.YtpkpffnabcgcbaaFr
namespace Go.Proofs.Ytpkpffnabcgcbaa
open Go.RowKit

def setV (s : St) (y : Int) (c : Cl) : Except Int St := match curN s with
  | some n => match s.envs[n]? with
    | some x => if y < 1 ∨ (x.y.length : Int) < y then .error 1 else
        if protV s < s.e then .ok ⟨s.envs.set n { x with y := x.y.set (y - 1).toNat c }, s.e, s.chs⟩
        else if 1048576 ≤ protV s then .error 13
        else .ok ⟨s.envs.take (keepN s) ++ [{ x with y := x.y.set (y - 1).toNat c }], (keepN s : Int) + 1, s.chs⟩
    | none => .error 5
  | none => .error 5
theorem blks_once {l : List Value} (h : (blks l).Nodup) {i k g : Nat} {a b : Value} (hi : l[i]? = some a) (hk : l[k]? = some b) (ha : a.ownBlock = some g) (hb : b.ownBlock = some g) : i = k := by
  unfold blks List.Nodup at h
  rw [List.pairwise_filterMap] at h
  rw [List.pairwise_iff_getElem] at h
  obtain ⟨h1, rfl⟩ := List.getElem?_eq_some_iff.1 hi
  obtain ⟨h2, rfl⟩ := List.getElem?_eq_some_iff.1 hk
  rcases Nat.lt_trichotomy i k with hlt | rfl | hlt
  · exact absurd rfl (h i k h1 h2 hlt g ha g hb)
  · rfl
  · exact absurd rfl (h k i h2 h1 hlt g hb g ha)
theorem eCs_y : ∀ {l : List En} {vs : List Value} {i : Nat} {x : En} (y : List Cl), l[i]? = some x → eCs (l.set i { x with y := y }) vs = eCs l vs
  | [], _, _, _, _, h => by simp at h
  | z :: l, [], 0, x, y, h => rfl
  | z :: l, v :: vs, 0, x, y, h => by
    have e : z = x := by simpa using h
    subst e
    rfl
  | z :: l, [], i + 1, x, y, h => rfl
  | z :: l, v :: vs, i + 1, x, y, h => by
    have h' : l[i]? = some x := by simpa using h
    simp only [List.set_cons_succ, eCs, eCs_y (l := l) (vs := vs) y h']
theorem cCs_set : ∀ {l : List Cl} {j : Nat} (c : Cl), j < l.length → ((cCs l).set (j * 2) (.int .i64 c.tag)).set (j * 2 + 1) (.int .i64 c.n) = cCs (l.set j c)
  | [], j, c, h => by simp at h
  | z :: l, 0, c, h => rfl
  | z :: l, j + 1, c, h => by
    have h' : j < l.length := by simpa using h
    rw [show (j + 1) * 2 = j * 2 + 1 + 1 by omega, show j * 2 + 1 + 1 + 1 = (j * 2 + 1) + 1 + 1 by omega]
    simp only [List.set_cons_succ, cCs, cCs_set c h']
/-- a cell of a list of an environment -/
theorem Stk.setY {w : World} {B p gy cy : Nat} {s : St} {ve vc : Value} {ys : List Value} {cs : List (Value × Value)} (h : Stk w B p s ve vc ys cs) {i j : Nat} {x : En} (c : Cl) (hx : s.envs[i]? = some x)
    (hv : ys[i]? = some (.slice (some ⟨gy, 0, none⟩) x.y.length cy)) (hj : j < x.y.length) :
    Stk ((w.setCell ⟨gy, j * 2, none⟩ (.int .i64 c.tag)).setCell ⟨gy, j * 2 + 1, none⟩ (.int .i64 c.n)) B p ⟨s.envs.set i { x with y := x.y.set j c }, s.e, s.chs⟩ ve vc ys cs := by
  have hr := h.yrow i x _ hx hv
  have hlt := (List.getElem?_eq_some_iff.1 hx).1
  have hil := (List.getElem?_eq_some_iff.1 hv).1
  have h1 := (hr.stored (j * 2) (.int .i64 c.tag)).1
  have h2 := (h1.stored (j * 2 + 1) (.int .i64 c.n)).1
  rw [cCs_set c hj] at h2
  have hu := ((Upd.refl gy w).set (j * 2) (.int .i64 c.tag)).set (j * 2 + 1) (.int .i64 c.n)
  obtain ⟨w', hw'⟩ : ∃ X, X = (w.setCell ⟨gy, j * 2, none⟩ (.int .i64 c.tag)).setCell ⟨gy, j * 2 + 1, none⟩ (.int .i64 c.n) := ⟨_, rfl⟩
  rw [← hw'] at h2 hu ⊢
  have hgp : gy ≠ p := own_ne hr h.box (by decide) rfl
  have hgt : ∀ {t size n : Nat} {v : Value} {xs : List Value}, w.ownsRow B t size v n xs → t ≠ 38 → w'.ownsRow B t size v n xs := fun k1 ht => own_stay k1 fun g hg => hu.block g fun e => by
    subst e
    exact own_apart k1 hr ht hg rfl
  have hno : ∀ {t size n : Nat} {v : Value} {xs : List Value} {k : Nat}, w.ownsRow B t size v n xs → (ys ++ cs.map (·.1) ++ cs.map (·.2))[k]? = some v → k ≠ i → w'.ownsRow B t size v n xs := fun k1 hk hki => own_stay k1 fun g hg => hu.block g fun e => by
    subst e
    exact hki (blks_once h.nodup hk (by rw [List.append_assoc, List.getElem?_append_left hil]; exact hv) hg rfl)
  refine ⟨(hu.block p fun e => hgp e.symm).trans h.box, h.low, ?_, hgt h.chs (by decide), by simp [h.ylen], h.clen, fun k z v hz hv' => ?_, fun k z v hz hv' => ⟨hno (k := ys.length + k) (h.crow k z v hz hv').1 ?_ ?_, hno (k := ys.length + cs.length + k) (h.crow k z v hz hv').2 ?_ ?_⟩, h.nodup⟩
  · show w'.ownsRow B 54 4 ve (s.envs.set i { x with y := x.y.set j c }).length (eCs (s.envs.set i { x with y := x.y.set j c }) ys)
    rw [List.length_set, eCs_y _ hx]
    exact hgt h.envs (by decide)
  · have hz' : (s.envs.set i { x with y := x.y.set j c })[k]? = some z := hz
    by_cases hik : i = k
    · subst hik
      rw [List.getElem?_set_self hlt] at hz'
      rw [hv] at hv'
      injection hz' with hz'
      injection hv' with hv'
      subst hz' hv'
      show w'.ownsRow B 38 2 _ (x.y.set j c).length _
      rw [List.length_set]
      exact h2
    · rw [List.getElem?_set_ne hik] at hz'
      exact hno (k := k) (h.yrow k z v hz' hv') (by rw [List.append_assoc, List.getElem?_append_left (List.getElem?_eq_some_iff.1 hv').1]; exact hv') (fun e => hik e.symm)
  · have hk := (List.getElem?_eq_some_iff.1 hv').1
    rw [List.getElem?_append_left (by simp <;> omega), List.getElem?_append_right (by omega), Nat.add_sub_cancel_left, List.getElem?_map, hv']
    rfl
  · omega
  · rw [List.getElem?_append_right (by simp)]
    simp only [List.length_append, List.length_map]
    rw [Nat.add_sub_cancel_left, List.getElem?_map, hv']
    rfl
  · omega
set_option maxHeartbeats 4000000 in
theorem set_any {B p : Nat} {s : St} {ve vc : Value} {ys : List Value} {cs : List (Value × Value)} (y : Int) (cl : Cl) (w : World) (h : Stk w B p s ve vc ys cs) (hn : s.envs.length ≤ 1000000000000) (hnc : s.chs.length ≤ 1000000000000) (hny : ∀ x ∈ s.envs, x.y.length ≤ 1000000000000) :
    Calls Try.prog 20 #[.pointer (some ⟨p, 0, none⟩), .int .i64 y, cl.v] w (RetP B p (foot p ve vc ys cs) (.int .i64 (errOf (setV s y cl))) (stOf s (setV s y cl)) w) := by
  obtain ⟨i1, hi1, hz1, hy1, hb1'⟩ := info_parts info54
  have hBw : B ≤ w.heap.size := Nat.le_of_lt (Nat.lt_of_le_of_lt h.low h.box.lt)
  obtain ⟨W, HW⟩ : ∃ W, Hid (W = w.alloc (.cells #[.int .i64 cl.tag, .int .i64 cl.n] 38)) := ⟨_, rfl⟩
  have hbW : Below w.heap.size w W := by rw [HW.out]; exact bAlloc _ _
  have hkW : Blk W w.heap.size 38 #[.int .i64 cl.tag, .int .i64 cl.n] := by rw [HW.out]; exact Blk.new _ _ _
  have HFL := Lib.hid h.foot_lt
  have HS := Lib.hid (h.next hbW)
  have HB := Lib.hid hbW
  have HK := Lib.hid hkW
  clear h hbW hkW
  obtain ⟨q5, hq5⟩ : ∃ q, Hid (q = w.heap.size) := ⟨_, rfl⟩
  rw [← hq5.out] at HK
  have hq5l : w.heap.size ≤ q5 := by rw [hq5.out]; exact Nat.le_refl _
  by_cases hc : 1 ≤ s.e ∧ s.e ≤ s.envs.length
  · obtain ⟨n, hn1⟩ : ∃ n : Nat, s.e = (n : Int) + 1 := ⟨(s.e - 1).toNat, by omega⟩
    have hlt : n < s.envs.length := by omega
    obtain ⟨x, hx⟩ : ∃ x, s.envs[n]? = some x := ⟨_, List.getElem?_eq_getElem hlt⟩
    have hxl := hny x (List.mem_of_getElem? hx)
    have hsv : setV s y cl = if y < 1 ∨ (x.y.length : Int) < y then .error 1 else
        if protV s < s.e then .ok ⟨s.envs.set n { x with y := x.y.set (y - 1).toNat cl }, s.e, s.chs⟩
        else if 1048576 ≤ protV s then .error 13
        else .ok ⟨s.envs.take (keepN s) ++ [{ x with y := x.y.set (y - 1).toNat cl }], (keepN s : Int) + 1, s.chs⟩ := by
      unfold setV curN
      rw [if_pos hc, show (s.e - 1).toNat = n by omega]
      simp only [hx]
    rw [hsv]
    clear hsv
    obtain ⟨g, cap, v, rfl, hcap, hyv, hyr, -, -, -, -⟩ := HS.out.enAt hx
    have HCUR := Lib.hid (current_at W HS.out hn hn1 hlt)
    by_cases hyl1 : y < 1
    · rw [if_pos (.inl hyl1)]
      go_enter Try.func20, Try.ntmps20
      go_upto_region 1 with fail
      rw [← HW.out]
      try rw [← hq5.out]
      clear HW hn1
      go_wp2_with fail
      refine HCUR.out.mono ?_
      rintro e w1 ⟨rfl, hb1⟩
      have H1 := Lib.hid (HS.out.next hb1)
      obtain ⟨g', cap1, v1, e1, hcap1, hyv1, hyr1, k0, k1, k2, k3⟩ := H1.out.enAt hx
      injection e1 with e1 _ ecap
      injection e1 with e1
      injection e1 with e1 _ _
      subst e1 ecap
      obtain rfl : v1 = v := by rw [hyv] at hyv1; injection hyv1 with e; exact e.symm
      have HB1 := Lib.hid (bNext HB.out hb1)
      have HK1 := Lib.hid (HK.out.next hb1)
      have HYR := Lib.hid hyr1
      obtain ⟨Ay, cy, rfl, hcy⟩ := own_form hyr1
      have HCY := Lib.hid hcy
      clear hb1 HCUR hyv1 hyr hcy hyr1 HS HB HK
      go_wp2_with fail
      go_ret
      exact ⟨rfl, ⟨_, _, _, _, H1.out, fun g hg => .inl hg⟩, Kept.below HB1.out⟩
    by_cases hyl2 : (x.y.length : Int) < y
    · rw [if_pos (.inr hyl2)]
      go_enter Try.func20, Try.ntmps20
      go_upto_region 1 with fail
      rw [← HW.out]
      try rw [← hq5.out]
      clear HW hn1
      go_wp2_with fail
      refine HCUR.out.mono ?_
      rintro e w1 ⟨rfl, hb1⟩
      have H1 := Lib.hid (HS.out.next hb1)
      obtain ⟨g', cap1, v1, e1, hcap1, hyv1, hyr1, k0, k1, k2, k3⟩ := H1.out.enAt hx
      injection e1 with e1 _ ecap
      injection e1 with e1
      injection e1 with e1 _ _
      subst e1 ecap
      obtain rfl : v1 = v := by rw [hyv] at hyv1; injection hyv1 with e; exact e.symm
      have HB1 := Lib.hid (bNext HB.out hb1)
      have HK1 := Lib.hid (HK.out.next hb1)
      have HYR := Lib.hid hyr1
      obtain ⟨Ay, cy, rfl, hcy⟩ := own_form hyr1
      have HCY := Lib.hid hcy
      clear hb1 HCUR hyv1 hyr hcy hyr1 HS HB HK
      go_wp2_with fail
      go_ret
      exact ⟨rfl, ⟨_, _, _, _, H1.out, fun g hg => .inl hg⟩, Kept.below HB1.out⟩
    rw [if_neg (by omega)]
    obtain ⟨j, rfl⟩ : ∃ j : Nat, y = (j : Int) + 1 := ⟨(y - 1).toNat, by omega⟩
    have hj : j < x.y.length := by omega
    rw [show ((j : Int) + 1 - 1).toNat = j by omega]
    by_cases hpr : protV s < s.e
    · rw [if_pos hpr]
      have hpr' : ¬ s.e ≤ protV s := by omega
      go_enter Try.func20, Try.ntmps20
      go_upto_region 1 with fail
      rw [← HW.out]
      try rw [← hq5.out]
      clear HW hn1
      go_wp2_with fail
      refine HCUR.out.mono ?_
      rintro e w1 ⟨rfl, hb1⟩
      have H1 := Lib.hid (HS.out.next hb1)
      obtain ⟨g', cap1, v1, e1, hcap1, hyv1, hyr1, k0, k1, k2, k3⟩ := H1.out.enAt hx
      injection e1 with e1 _ ecap
      injection e1 with e1
      injection e1 with e1 _ _
      subst e1 ecap
      obtain rfl : v1 = v := by rw [hyv] at hyv1; injection hyv1 with e; exact e.symm
      have HB1 := Lib.hid (bNext HB.out hb1)
      have HK1 := Lib.hid (HK.out.next hb1)
      have HYR := Lib.hid hyr1
      obtain ⟨Ay, cy, rfl, hcy⟩ := own_form hyr1
      have HCY := Lib.hid hcy
      clear hb1 HCUR hyv1 hyr hcy hyr1 HS HB HK
      obtain ⟨gy, gc, ey⟩ : ∃ gy gc, Value.slice Ay x.y.length cy = .slice (some ⟨gy, 0, none⟩) x.y.length gc := own_head HYR.out (by omega)
      injection ey with ey _ ey2
      subst ey ey2
      go_wp2_with fail
      refine (protected_any _ H1.out hnc).mono ?_
      rintro e w9 ⟨rfl, h9⟩
      obtain rfl := h9.symm
      clear h9
      obtain ⟨c0, c1, c2⟩ := H1.out.cells
      have hl := H1.out.box.lt
      go_upto_region 17 with fail
      obtain ⟨Xt, HXt⟩ : ∃ X, Hid (X = w1.drew) := ⟨_, rfl⟩
      have hdt : Below w1.heap.size w1 Xt := by rw [HXt.out]; exact bDrew _
      have HT := Lib.hid (H1.out.next hdt)
      have hkt := HK1.out.next hdt
      have b0 := hkt.cell 0
      have b1 := hkt.cell 1
      simp at b0 b1
      have t3 : Xt.cell? ⟨g, n * 4 + 3, none⟩ = some (.slice (some ⟨gy, 0, none⟩) x.y.length cy) := by rw [HXt.out]; exact k3
      have hrow := HT.out.yrow n x (.slice (some ⟨gy, 0, none⟩) x.y.length cy) (hx) (hyv)
      have f0 := hrow.frozenAt (j * 2)
      have gl2 := (hrow.lt gy rfl).2
      obtain ⟨xj, hxj⟩ : ∃ xj, x.y[j]? = some xj := ⟨_, List.getElem?_eq_getElem hj⟩
      have z0 := own_cell hrow (cCs_at hxj).1
      have s1 := (hrow.stored (j * 2) (.int .i64 cl.tag)).1
      have f1 := s1.frozenAt (j * 2 + 1)
      have z1 := own_cell (j := j * 2 + 1) (u := .int .i64 xj.n) s1 (by rw [List.getElem?_set_ne (by omega)]; exact (cCs_at hxj).2)
      have hjw : IntKind.i64.wrap (j : Int) = (j : Int) := by rw [IntKind.wrap_i64]; omega
      have hjI : (j : Int) < (x.y.length : Int) := by omega
      have HSET := Lib.hid (HT.out.setY cl (hx) (hyv) hj)
      clear s1 hrow hxj k3
      refine wp_region_N (fun w' => w' = Xt) (fun j => decide (j < 8)) (by kernel_rfl) ?_
      rw [← HXt.out]
      clear HXt
      have hS0 : (fun w' => w' = Xt) Xt := rfl
      refine wpAnyN_take (i := 0) (v := ?v1) rfl (by kernel_rfl) (by kernel_rfl) (by kernel_rfl) (by kernel_rfl) (fun _ _ _ h => h) (Or.inl ⟨by rfl, ?hy1⟩) (by assumption) ?_
      case hy1 => intro w hSw; obtain rfl := hSw; go_simp; try with_reducible rfl
      simp only [Act.put, List.getElem_toArray, List.getElem_cons_zero, List.setIfInBounds_toArray, List.set_cons_zero, List.set_cons_succ]
      refine wpAnyN_take (i := 1) (v := ?v2) rfl (by kernel_rfl) (by kernel_rfl) (by kernel_rfl) (by kernel_rfl) (fun _ _ _ h => h) (Or.inl ⟨by rfl, ?hy2⟩) (by assumption) ?_
      case hy2 => intro w hSw; obtain rfl := hSw; go_simp; try with_reducible rfl
      simp only [Act.put, List.getElem_toArray, List.getElem_cons_zero, List.getElem_cons_succ, List.setIfInBounds_toArray, List.set_cons_zero, List.set_cons_succ]
      refine wpAnyN_take (i := 2) (v := ?v3) rfl (by kernel_rfl) (by kernel_rfl) (by kernel_rfl) (by kernel_rfl) (fun _ _ _ h => h) (Or.inl ⟨by rfl, ?hy3⟩) (by assumption) ?_
      case hy3 => intro w hSw; obtain rfl := hSw; go_simp; try with_reducible rfl
      simp only [Act.put, List.getElem_toArray, List.getElem_cons_zero, List.getElem_cons_succ, List.setIfInBounds_toArray, List.set_cons_zero, List.set_cons_succ]
      refine wpAnyN_take (i := 3) (v := ?v4) rfl (by kernel_rfl) (by kernel_rfl) (by kernel_rfl) (by kernel_rfl) (fun _ _ _ h => h) (Or.inl ⟨by rfl, ?hy4⟩) (by assumption) ?_
      case hy4 => intro w hSw; obtain rfl := hSw; go_simp; try with_reducible rfl
      simp only [Act.put, List.getElem_toArray, List.getElem_cons_zero, List.getElem_cons_succ, List.setIfInBounds_toArray, List.set_cons_zero, List.set_cons_succ]
      refine wpAnyN_take (i := 4) (v := ?v5) rfl (by kernel_rfl) (by kernel_rfl) (by kernel_rfl) (by kernel_rfl) (fun _ _ _ h => h) (Or.inl ⟨by rfl, ?hy5⟩) (by assumption) ?_
      case hy5 => intro w hSw; obtain rfl := hSw; go_simp; try with_reducible rfl
      simp only [Act.put, List.getElem_toArray, List.getElem_cons_zero, List.getElem_cons_succ, List.setIfInBounds_toArray, List.set_cons_zero, List.set_cons_succ]
      refine wpAnyN_take (i := 5) (v := ?v6) rfl (by kernel_rfl) (by kernel_rfl) (by kernel_rfl) (by kernel_rfl) (fun _ _ _ h => h) (Or.inl ⟨by rfl, ?hy6⟩) (by assumption) ?_
      case hy6 => intro w hSw; obtain rfl := hSw; go_simp; try with_reducible rfl
      simp only [Act.put, List.getElem_toArray, List.getElem_cons_zero, List.getElem_cons_succ, List.setIfInBounds_toArray, List.set_cons_zero, List.set_cons_succ]
      refine wpAnyN_take (i := 6) (v := ?v7) rfl (by kernel_rfl) (by kernel_rfl) (by kernel_rfl) (by kernel_rfl) (fun _ _ _ h => h) (Or.inl ⟨by rfl, ?hy7⟩) (by assumption) ?_
      case hy7 => intro w hSw; obtain rfl := hSw; go_simp; try with_reducible rfl
      simp only [Act.put, List.getElem_toArray, List.getElem_cons_zero, List.getElem_cons_succ, List.setIfInBounds_toArray, List.set_cons_zero, List.set_cons_succ]
      refine wpAnyN_take (i := 7) (v := ?v8) rfl (by kernel_rfl) (by kernel_rfl) (by kernel_rfl) (by kernel_rfl) (fun _ _ _ h => h) (Or.inl ⟨by rfl, ?hy8⟩) (by assumption) ?_
      case hy8 => intro w hSw; obtain rfl := hSw; go_simp; try with_reducible rfl
      simp only [Act.put, List.getElem_toArray, List.getElem_cons_zero, List.getElem_cons_succ, List.setIfInBounds_toArray, List.set_cons_zero, List.set_cons_succ]
      refine wpAnyN_one (i := 8) (by kernel_rfl) rfl (fun K hK => ?_)
      simp only [List.getElem_toArray, List.getElem_cons_zero, List.getElem_cons_succ]
      go_simp
      refine hK _ _ (fun h => absurd h (by decide)) ?_
      (try simp only [Act.put, List.setIfInBounds_toArray, List.set_cons_zero, List.set_cons_succ])
      refine wpAnyN_done (by kernel_rfl) ?_ _
      go_wp2_with fail
      go_ret
      have hgyF : gy ∈ foot p (.slice (some ⟨g, 0, none⟩) s.envs.length cap) vc ys cs := foot_mem (v := .slice (some ⟨gy, 0, none⟩) x.y.length cy) (by simp [List.mem_of_getElem? hyv]) rfl
      exact ⟨rfl, ⟨_, _, _, _, HSET.out, fun k hk => .inl hk⟩, (Kept.below (bNext HB1.out hdt)).trans (Kept.upd (((Upd.refl gy _).set _ _).set _ _) hgyF)⟩
    rw [if_neg hpr]
    have hpr' : s.e ≤ protV s := by omega
    by_cases hfull : 1048576 ≤ protV s
    · rw [if_pos hfull]
      go_enter Try.func20, Try.ntmps20
      go_upto_region 1 with fail
      rw [← HW.out]
      try rw [← hq5.out]
      clear HW hn1
      go_wp2_with fail
      refine HCUR.out.mono ?_
      rintro e w1 ⟨rfl, hb1⟩
      have H1 := Lib.hid (HS.out.next hb1)
      obtain ⟨g', cap1, v1, e1, hcap1, hyv1, hyr1, k0, k1, k2, k3⟩ := H1.out.enAt hx
      injection e1 with e1 _ ecap
      injection e1 with e1
      injection e1 with e1 _ _
      subst e1 ecap
      obtain rfl : v1 = v := by rw [hyv] at hyv1; injection hyv1 with e; exact e.symm
      have HB1 := Lib.hid (bNext HB.out hb1)
      have HK1 := Lib.hid (HK.out.next hb1)
      have HYR := Lib.hid hyr1
      obtain ⟨Ay, cy, rfl, hcy⟩ := own_form hyr1
      have HCY := Lib.hid hcy
      clear hb1 HCUR hyv1 hyr hcy hyr1 HS HB HK
      obtain ⟨gy, gc, ey⟩ : ∃ gy gc, Value.slice Ay x.y.length cy = .slice (some ⟨gy, 0, none⟩) x.y.length gc := own_head HYR.out (by omega)
      injection ey with ey _ ey2
      subst ey ey2
      go_wp2_with fail
      refine (protected_any _ H1.out hnc).mono ?_
      rintro e w9 ⟨rfl, h9⟩
      obtain rfl := h9.symm
      clear h9
      obtain ⟨c0, c1, c2⟩ := H1.out.cells
      have hl := H1.out.box.lt
      go_wp2_with fail
      go_ret
      exact ⟨rfl, ⟨_, _, _, _, H1.out, fun g hg => .inl hg⟩, Kept.below HB1.out⟩
    rw [if_neg hfull]
    obtain ⟨m, hm⟩ : ∃ m, Hid (m = keepN s) := ⟨_, rfl⟩
    have hmI : Hid ((m : Int) = min (max (protV s) 0) s.envs.length) := by
      refine Lib.hid ?_
      rw [hm.out]
      unfold keepN
      omega
    have hmn : m ≤ s.envs.length := by have := hmI.out; omega
    rw [← hm.out]
    go_enter Try.func20, Try.ntmps20
    go_upto_region 1 with fail
    rw [← HW.out]
    try rw [← hq5.out]
    clear HW hn1
    go_wp2_with fail
    refine HCUR.out.mono ?_
    rintro e w1 ⟨rfl, hb1⟩
    have H1 := Lib.hid (HS.out.next hb1)
    obtain ⟨g', cap1, v1, e1, hcap1, hyv1, hyr1, k0, k1, k2, k3⟩ := H1.out.enAt hx
    injection e1 with e1 _ ecap
    injection e1 with e1
    injection e1 with e1 _ _
    subst e1 ecap
    obtain rfl : v1 = v := by rw [hyv] at hyv1; injection hyv1 with e; exact e.symm
    have HB1 := Lib.hid (bNext HB.out hb1)
    have HK1 := Lib.hid (HK.out.next hb1)
    have HYR := Lib.hid hyr1
    obtain ⟨Ay, cy, rfl, hcy⟩ := own_form hyr1
    have HCY := Lib.hid hcy
    clear hb1 HCUR hyv1 hyr hcy hyr1 HS HB HK
    obtain ⟨gy, gc, ey⟩ : ∃ gy gc, Value.slice Ay x.y.length cy = .slice (some ⟨gy, 0, none⟩) x.y.length gc := own_head HYR.out (by omega)
    injection ey with ey _ ey2
    subst ey ey2
    go_wp2_with fail
    refine (protected_any _ H1.out hnc).mono ?_
    rintro e w9 ⟨rfl, h9⟩
    obtain rfl := h9.symm
    clear h9
    obtain ⟨c0, c1, c2⟩ := H1.out.cells
    have hl := H1.out.box.lt
    go_upto_region 13 with fail
    obtain ⟨W2, HW2⟩ : ∃ X, Hid (X = w1.alloc (.cells #[.int .i64 x.prev, .int .i64 x.id, .int .i64 x.pc, .slice (some ⟨gy, 0, none⟩) x.y.length cy] 54)) := ⟨_, rfl⟩
    have hb2 : Below w1.heap.size w1 W2 := by rw [HW2.out]; exact bAlloc _ _
    have kq2 : Blk W2 w1.heap.size 54 #[.int .i64 x.prev, .int .i64 x.id, .int .i64 x.pc, .slice (some ⟨gy, 0, none⟩) x.y.length cy] := by rw [HW2.out]; exact Blk.new _ _ _
    rw [← HW2.out]
    clear HW2
    have hq52 : q5 < w1.heap.size := HK1.out.lt
    obtain ⟨q2, hq2⟩ : ∃ q, Hid (q = w1.heap.size) := ⟨_, rfl⟩
    rw [← hq2.out] at kq2 hq52 ⊢
    have H2 := Lib.hid (H1.out.next hb2)
    have HK2 := Lib.hid (HK1.out.next hb2)
    have HB2 := Lib.hid (bNext HB1.out hb2)
    have hr2 := own_stay (w' := W2) HYR.out fun k hk => hb2.block k (HYR.out.lt k hk).2
    have hri : RowIn W2 (some ⟨gy, 0, none⟩) (cCs x.y) := fun ad ha i u hu => by
      injection ha with ha
      subst ha
      have e : (⟨gy, 0, none⟩ : Addr).add i = ⟨gy, i, none⟩ := by cases i <;> simp [Addr.add]
      rw [e]
      exact own_cell hr2 hu
    have HRI := Lib.hid hri
    have k3b : W2.cell? ⟨g, n * 4 + 3, none⟩ = some (.slice (some ⟨gy, 0, none⟩) x.y.length cy) := (hb2.cell (p := ⟨g, _, none⟩) (H1.out.envs.lt g rfl).2).trans k3
    clear hb2 hr2 hri k0 k1 k2 k3 H1 HK1 HB1 c0 c1 c2 hl HYR
    have hqw : w.heap.size < q2 := by omega
    go_wp2_with fail
    refine (copied_cells (some ⟨gy, 0, none⟩) cy x.y W2 HCY.out HRI.out (by omega)).mono ?_
    rintro e w3 ⟨⟨v3, rfl, hv3⟩, hb3⟩
    obtain ⟨A3, d3, rfl, -⟩ := own_form hv3
    have kb := kq2.next hb3
    have kf3 := kb.frozen 3
    have kc3 := kb.cell 3
    have kl := kb.lt
    simp at kc3
    have HV3 := Lib.hid hv3
    have H3 := Lib.hid (H2.out.next hb3)
    have HK3 := Lib.hid (HK2.out.next hb3)
    have HB3 := Lib.hid (bNext HB2.out hb3)
    have hq2W : q2 < W2.heap.size := kq2.lt
    clear hv3 hb3 k3b H2 HK2 HB2
    go_upto_region 14 with fail
    have hu4 := (Upd.refl q2 w3).set 3 (.slice A3 x.y.length d3)
    have hk4 := kb.set_ 3 (.slice A3 x.y.length d3)
    obtain ⟨W4, HW4⟩ : ∃ X, Hid (X = w3.setCell ⟨q2, 3, none⟩ (.slice A3 x.y.length d3)) := ⟨_, rfl⟩
    rw [← HW4.out] at hu4 hk4 ⊢
    obtain ⟨X5, HX5⟩ : ∃ X, Hid (X = W4.drew) := ⟨_, rfl⟩
    have hd5 : Below W4.heap.size W4 X5 := by rw [HX5.out]; exact bDrew _
    have hfl : ∀ k ∈ foot p (.slice (some ⟨g, 0, none⟩) s.envs.length cap) vc ys cs, k ≠ q2 := fun k hk e => by have := HFL.out k hk; omega
    have HS7 := Lib.hid ((H3.out.stayF fun k hk => hu4.block k (hfl k hk)).next hd5)
    have HB7 := Lib.hid (bNext (hu4.below HB3.out (Nat.le_of_lt hqw)) hd5)
    have HQ7 := Lib.hid (show Blk X5 q2 54 #[.int .i64 x.prev, .int .i64 x.id, .int .i64 x.pc, .slice A3 x.y.length d3] from Blk.next (by simpa using hk4) hd5)
    have HK7 := Lib.hid ((show Blk W4 q5 38 _ from (hu4.block q5 (by omega)).trans HK3.out).next hd5)
    have hv4 := own_stay (w' := W4) HV3.out fun k hk => hu4.block k (by have := (HV3.out.lt k hk).1; omega)
    have HO7 := Lib.hid (own_stay (w' := X5) hv4 fun k hk => hd5.block k (hv4.lt k hk).2)
    have hW2w : w.heap.size ≤ W2.heap.size := by omega
    clear hv4 hu4 hk4 kb kf3 kc3 kl HW4 H3 HK3 HB3 HV3 kq2
    refine wp_region_N (fun w' => Blk w' p 25 #[.slice (some ⟨g, 0, none⟩) s.envs.length cap, .int .i64 s.e, vc] ∧ Blk w' q2 54 #[.int .i64 x.prev, .int .i64 x.id, .int .i64 x.pc, .slice A3 x.y.length d3]) (fun j => decide (j < 10)) (by kernel_rfl) ?_
    rw [← HX5.out]
    clear HX5 hd5
    have hS0 : (fun w' => Blk w' p 25 #[.slice (some ⟨g, 0, none⟩) s.envs.length cap, .int .i64 s.e, vc] ∧ Blk w' q2 54 #[.int .i64 x.prev, .int .i64 x.id, .int .i64 x.pc, .slice A3 x.y.length d3]) X5 := ⟨HS7.out.box, HQ7.out⟩
    refine wpAnyN_take (i := 0) (v := ?v9) rfl (by kernel_rfl) (by kernel_rfl) (by kernel_rfl) (by kernel_rfl) (fun _ _ _ h => h) (Or.inl ⟨by rfl, ?hy9⟩) (by assumption) ?_
    case hy9 => intro w hSw; obtain ⟨hsp, hsq⟩ := hSw; have e0 := hsp.cell 0; have e1 := hsp.cell 1; have i0 := hsq.cell 0; have i1 := hsq.cell 1; have i2 := hsq.cell 2; have i3 := hsq.cell 3; simp at e0 e1 i0 i1 i2 i3; go_simp; try with_reducible rfl
    simp only [Act.put, List.getElem_toArray, List.getElem_cons_zero, List.setIfInBounds_toArray, List.set_cons_zero, List.set_cons_succ]
    refine wpAnyN_take (i := 1) (v := ?v10) rfl (by kernel_rfl) (by kernel_rfl) (by kernel_rfl) (by kernel_rfl) (fun _ _ _ h => h) (Or.inl ⟨by rfl, ?hy10⟩) (by assumption) ?_
    case hy10 => intro w hSw; obtain ⟨hsp, hsq⟩ := hSw; have e0 := hsp.cell 0; have e1 := hsp.cell 1; have i0 := hsq.cell 0; have i1 := hsq.cell 1; have i2 := hsq.cell 2; have i3 := hsq.cell 3; simp at e0 e1 i0 i1 i2 i3; go_simp; try with_reducible rfl
    simp only [Act.put, List.getElem_toArray, List.getElem_cons_zero, List.getElem_cons_succ, List.setIfInBounds_toArray, List.set_cons_zero, List.set_cons_succ]
    refine wpAnyN_take (i := 2) (v := ?v11) rfl (by kernel_rfl) (by kernel_rfl) (by kernel_rfl) (by kernel_rfl) (fun _ _ _ h => h) (Or.inl ⟨by rfl, ?hy11⟩) (by assumption) ?_
    case hy11 => intro w hSw; obtain ⟨hsp, hsq⟩ := hSw; have e0 := hsp.cell 0; have e1 := hsp.cell 1; have i0 := hsq.cell 0; have i1 := hsq.cell 1; have i2 := hsq.cell 2; have i3 := hsq.cell 3; simp at e0 e1 i0 i1 i2 i3; go_simp; try with_reducible rfl
    simp only [Act.put, List.getElem_toArray, List.getElem_cons_zero, List.getElem_cons_succ, List.setIfInBounds_toArray, List.set_cons_zero, List.set_cons_succ]
    refine wpAnyN_take (i := 3) (v := ?v12) rfl (by kernel_rfl) (by kernel_rfl) (by kernel_rfl) (by kernel_rfl) (fun _ _ _ h => h) (Or.inl ⟨by rfl, ?hy12⟩) (by assumption) ?_
    case hy12 => intro w hSw; obtain ⟨hsp, hsq⟩ := hSw; have e0 := hsp.cell 0; have e1 := hsp.cell 1; have i0 := hsq.cell 0; have i1 := hsq.cell 1; have i2 := hsq.cell 2; have i3 := hsq.cell 3; simp at e0 e1 i0 i1 i2 i3; go_simp; try with_reducible rfl
    simp only [Act.put, List.getElem_toArray, List.getElem_cons_zero, List.getElem_cons_succ, List.setIfInBounds_toArray, List.set_cons_zero, List.set_cons_succ]
    refine wpAnyN_take (i := 4) (v := ?v13) rfl (by kernel_rfl) (by kernel_rfl) (by kernel_rfl) (by kernel_rfl) (fun _ _ _ h => h) (Or.inl ⟨by rfl, ?hy13⟩) (by assumption) ?_
    case hy13 => intro w hSw; obtain ⟨hsp, hsq⟩ := hSw; have e0 := hsp.cell 0; have e1 := hsp.cell 1; have i0 := hsq.cell 0; have i1 := hsq.cell 1; have i2 := hsq.cell 2; have i3 := hsq.cell 3; simp at e0 e1 i0 i1 i2 i3; go_simp; try with_reducible rfl
    simp only [Act.put, List.getElem_toArray, List.getElem_cons_zero, List.getElem_cons_succ, List.setIfInBounds_toArray, List.set_cons_zero, List.set_cons_succ]
    refine wpAnyN_take (i := 5) (v := ?v14) rfl (by kernel_rfl) (by kernel_rfl) (by kernel_rfl) (by kernel_rfl) (fun _ _ _ h => h) (Or.inl ⟨by rfl, ?hy14⟩) (by assumption) ?_
    case hy14 => intro w hSw; obtain ⟨hsp, hsq⟩ := hSw; have e0 := hsp.cell 0; have e1 := hsp.cell 1; have i0 := hsq.cell 0; have i1 := hsq.cell 1; have i2 := hsq.cell 2; have i3 := hsq.cell 3; simp at e0 e1 i0 i1 i2 i3; go_simp; try with_reducible rfl
    simp only [Act.put, List.getElem_toArray, List.getElem_cons_zero, List.getElem_cons_succ, List.setIfInBounds_toArray, List.set_cons_zero, List.set_cons_succ]
    refine wpAnyN_take (i := 7) (v := ?v15) rfl (by kernel_rfl) (by kernel_rfl) (by kernel_rfl) (by kernel_rfl) (fun _ _ _ h => h) (Or.inl ⟨by rfl, ?hy15⟩) (by assumption) ?_
    case hy15 => intro w hSw; obtain ⟨hsp, hsq⟩ := hSw; have e0 := hsp.cell 0; have e1 := hsp.cell 1; have i0 := hsq.cell 0; have i1 := hsq.cell 1; have i2 := hsq.cell 2; have i3 := hsq.cell 3; simp at e0 e1 i0 i1 i2 i3; go_simp; try with_reducible rfl
    simp only [Act.put, List.getElem_toArray, List.getElem_cons_zero, List.getElem_cons_succ, List.setIfInBounds_toArray, List.set_cons_zero, List.set_cons_succ]
    refine wpAnyN_two (i := 6) (j := 8) (by kernel_rfl) rfl rfl (fun K1 hK1 => ?_) (fun K1 hK1 => ?_)
    · simp only [List.getElem_toArray, List.getElem_cons_zero, List.getElem_cons_succ]
      go_simp
      refine (cut_env _ ⟨hcap, fun e => by cases e⟩ hn hmI.out).mono ?_
      rintro e w6 ⟨rfl, h6⟩
      obtain rfl := h6.symm
      refine hK1 _ _ (fun _ => hS0) ?_
      (try simp only [Act.put, List.setIfInBounds_toArray, List.set_cons_zero, List.set_cons_succ])
      refine wpAnyN_one (i := 8) (by kernel_rfl) rfl (fun K2 hK2 => ?_)
      simp only [List.getElem_toArray, List.getElem_cons_zero, List.getElem_cons_succ]
      go_simp
      refine hK2 _ _ (fun _ => ⟨hS0.1.alloc _, hS0.2.alloc _⟩) ?_
      (try simp only [Act.put, List.setIfInBounds_toArray, List.set_cons_zero, List.set_cons_succ])
      have hX7 : B ≤ X5.heap.size := Nat.le_trans hBw HB7.out.size
      refine wpAnyN_one (i := 9) (by kernel_rfl) rfl (fun K hK => ?_)
      simp only [List.getElem_toArray, List.getElem_cons_zero, List.getElem_cons_succ]
      rw [if_pos (by rfl)]
      have hblk := Blk.new X5 54 #[.int .i64 x.prev, .int .i64 x.id, .int .i64 x.pc, .slice A3 x.y.length d3]
      have hrw := own_cut (HS7.out.envs.alloc (.cells #[.int .i64 x.prev, .int .i64 x.id, .int .i64 x.pc, .slice A3 x.y.length d3] 54)) hmn
      rw [eCs_take _ _ _ HS7.out.ylen] at hrw
      refine wp_append_lies _ (.tmp 54) (.tmp 56) 22 rfl B 54 i1 _ 4 48 Try.underlying22 hi1 hz1 hy1 hb1' rfl (by decide) (.slice (some ⟨g, 0, none⟩) m cap) m (eCs (s.envs.take m) (ys.take m)) rfl hrw ⟨X5.heap.size, 0, none⟩ 1 1 (eCs [x] [.slice A3 x.y.length d3]) rfl ?c1 ?c2 ?c3 (by omega) ?c4 ?c5 ?c6 _ rfl ?_
      case c1 => rfl
      case c2 =>
        intro i u hi
        have h := hblk.cell i
        have e : (⟨X5.heap.size, 0, none⟩ : Addr).add i = ⟨X5.heap.size, i, none⟩ := by cases i <;> simp [Addr.add]
        rw [e]
        exact h.trans (by simpa [eCs] using hi)
      case c3 =>
        intro u hu
        simp only [eCs, List.mem_cons, List.not_mem_nil, or_false] at hu
        rcases hu with rfl | rfl | rfl | rfl <;> rfl
      case c4 => unfold maxLen; omega
      case c5 => omega
      case c6 => simp; omega
      intro gD e8 w8 ho8 hg8 hat8 hlt8
      have hgp : Value.ownBlock (.slice (some ⟨g, 0, none⟩) s.envs.length cap) ≠ some p := fun e => own_ne HS7.out.envs HS7.out.box (by decide) e rfl
      have hg8' : (X5.alloc (.cells #[.int .i64 x.prev, .int .i64 x.id, .int .i64 x.pc, .slice A3 x.y.length d3] 54)).grownBy w8 (Value.ownBlock (.slice (some ⟨g, 0, none⟩) s.envs.length cap)) := hg8
      have k8 : Blk w8 p 25 _ := Blk.grown (w := X5.alloc (.cells #[.int .i64 x.prev, .int .i64 x.id, .int .i64 x.pc, .slice A3 x.y.length d3] 54)) (HS7.out.box.alloc _) hg8' hgp
      have f0 := k8.frozen 0
      have g0 := k8.cell 0
      have l8 := k8.lt
      simp at g0
      have hgq : Value.ownBlock (.slice (some ⟨g, 0, none⟩) s.envs.length cap) ≠ some q2 := fun e => hfl q2 (foot_mem (by simp) e) rfl
      have kq8 : Blk w8 q2 54 _ := Blk.grown (w := X5.alloc (.cells #[.int .i64 x.prev, .int .i64 x.id, .int .i64 x.pc, .slice A3 x.y.length d3] 54)) (HQ7.out.alloc _) hg8' hgq
      refine hK _ _ (fun _ => ⟨k8, kq8⟩) ?_
      (try simp only [Act.put, List.setIfInBounds_toArray, List.set_cons_zero, List.set_cons_succ])
      refine wpAnyN_one (i := 10) (by kernel_rfl) rfl (fun K hK => ?_)
      simp only [List.getElem_toArray, List.getElem_cons_zero, List.getElem_cons_succ]
      go_simp
      refine hK _ _ (fun h => absurd h (by decide)) ?_
      (try simp only [Act.put, List.setIfInBounds_toArray, List.set_cons_zero, List.set_cons_succ])
      refine wpAnyN_one (i := 11) (by kernel_rfl) rfl (fun K hK => ?_)
      simp only [List.getElem_toArray, List.getElem_cons_zero, List.getElem_cons_succ]
      go_simp
      refine hK _ _ (fun h => absurd h (by decide)) ?_
      (try simp only [Act.put, List.setIfInBounds_toArray, List.set_cons_zero, List.set_cons_succ])
      refine wpAnyN_one (i := 12) (by kernel_rfl) rfl (fun K hK => ?_)
      simp only [List.getElem_toArray, List.getElem_cons_zero, List.getElem_cons_succ]
      go_simp
      refine hK _ _ (fun h => absurd h (by decide)) ?_
      (try simp only [Act.put, List.setIfInBounds_toArray, List.set_cons_zero, List.set_cons_succ])
      refine wpAnyN_done (by kernel_rfl) ?_ _
      have hbF := (k8.set_ 0 (.slice (some ⟨gD, 0, none⟩) (m + 1) e8)).set_ 1 (.int .i64 ((m : Int) + 1))
      have huF := ((Upd.refl p w8).set 0 (.slice (some ⟨gD, 0, none⟩) (m + 1) e8)).set 1 (.int .i64 ((m : Int) + 1))
      have hk9 := k8.set_ 0 (.slice (some ⟨gD, 0, none⟩) (m + 1) e8)
      have f1 := hk9.frozen 1
      have g1 := hk9.cell 1
      have g00 := hk9.cell 0
      have l9 := hk9.lt
      simp at g1 g00
      obtain ⟨W9, HW9⟩ : ∃ X, Hid (X = w8.setCell ⟨p, 0, none⟩ (.slice (some ⟨gD, 0, none⟩) (m + 1) e8)) := ⟨_, rfl⟩
      rw [← HW9.out] at hbF huF f1 g1 g00 l9 ⊢
      obtain ⟨WF, HWF⟩ : ∃ X, Hid (X = W9.setCell ⟨p, 1, none⟩ (.int .i64 ((m : Int) + 1))) := ⟨_, rfl⟩
      rw [← HWF.out] at hbF huF
      have hz : ∀ i, i < X5.heap.size → i ≠ p → some i ≠ Value.ownBlock (.slice (some ⟨g, 0, none⟩) s.envs.length cap) → WF.heap[i]? = X5.heap[i]? := fun i h1 h2 h3 =>
        (huF.block i h2).trans ((hg8.block i (by simp; omega) h3).trans (Below.heap_alloc X5 _ i h1))
      have hrow : ∀ {t size n B' : Nat} {v : Value} {xs : List Value}, X5.ownsRow B' t size v n xs → t ≠ 25 → t ≠ 54 → WF.ownsRow B' t size v n xs := fun h1 t1 t2 =>
        own_stay h1 fun i hi => hz i (h1.lt i hi).2 (own_ne h1 HS7.out.box t1 hi) (own_apart h1 HS7.out.envs t2 hi)
      have hP := HS7.out.grown (WF := WF) (x := x) (vy := .slice A3 x.y.length d3) (b := w.heap.size) (g := gD) (e8 := e8) (e := (m : Int) + 1) hm.out HFL.out hz (by simpa using hbF) (own_stay ho8 fun i hi => huF.block i (own_ne ho8 k8 (by decide) hi))
        (own_base (hrow HO7.out (by decide) (by decide)) (by omega)) (fun i hi => Nat.le_trans hW2w (HO7.out.lt i hi).1) (by
          rcases hat8 with h8 | h8
          · exact .inl (by simpa [Value.ownBlock] using h8)
          · simp at h8
            exact .inr (by have := HB7.out.size; omega))
      have hKF : Kept (foot p (.slice (some ⟨g, 0, none⟩) s.envs.length cap) vc ys cs) w WF := by
        refine ⟨huF.os.trans (hg8.os.trans HB7.out.os), huF.tape.trans (hg8.tape.trans HB7.out.tape), huF.output.trans (hg8.output.trans HB7.out.output), ?_, fun i hi hf => (hz i (Nat.lt_of_lt_of_le hi HB7.out.size) (fun e => hf (e ▸ List.mem_cons_self)) (fun e => hf (foot_mem (by simp) e.symm))).trans (HB7.out.block i hi)⟩
        rw [huF.size]
        have h1 := hg8.size
        have h2 := HB7.out.size
        simp at h1
        omega
      have HKP := Lib.hid (show Blk WF q5 38 _ from (hz q5 HK7.out.lt (by have := HFL.out p List.mem_cons_self; omega) (fun e => by have := HFL.out q5 (foot_mem (by simp) e.symm); omega)).trans HK7.out)
      have HP := Lib.hid hP
      have HKF := Lib.hid hKF
      clear hP hKF hrow hz hbF huF k8 hk9 ho8 hg8 hg8' hat8 hS0 hblk hrw f0 g0 kq8 HW9 HQ7 HS7 HK7
      go_upto_region 16 with fail
      rw [← HWF.out]
      clear HWF f1 g1 g00 l9 l8
      go_wp2_with fail
      have hm1 : (s.envs.take m ++ [x]).length = m + 1 := by rw [List.length_append, List.length_take]; simp; omega
      have HC2 := current_at (g := gD) (cap := e8) WF (by have h := HP.out.1; rw [← hm1] at h; exact h) (by show (s.envs.take m ++ [x]).length ≤ _; have := hmI.out; omega) (n := m) rfl (by show m < (s.envs.take m ++ [x]).length; omega)
      refine HC2.mono ?_
      clear HC2
      rintro e w10 ⟨rfl, hb10⟩
      have H10 := Lib.hid (HP.out.1.next hb10)
      have HK10 := Lib.hid (HKP.out.next hb10)
      obtain ⟨gy', gc', ey⟩ : ∃ gy gc, Value.slice A3 x.y.length d3 = .slice (some ⟨gy, 0, none⟩) x.y.length gc := own_head HO7.out (by omega)
      injection ey with ey _ ey2
      subst ey ey2
      have hxm : (s.envs.take m ++ [x])[m]? = some x := by rw [List.getElem?_append_right (by rw [List.length_take]; omega), List.length_take, Nat.min_eq_left hmn, Nat.sub_self]; rfl
      have hym : (ys.take m ++ [Value.slice (some ⟨gy', 0, none⟩) x.y.length d3])[m]? = some (.slice (some ⟨gy', 0, none⟩) x.y.length d3) := by
        have := H10.out.ylen
        have hl : (ys.take m).length = m := by rw [hm1] at this; simpa using this
        rw [List.getElem?_append_right (by omega), hl, Nat.sub_self]
        rfl
      obtain ⟨g9, cap9, v9, e9, -, hv9, -, -, -, -, k39⟩ := H10.out.enAt hxm
      injection e9 with e9 el9 ec9
      clear el9 ec9
      injection e9 with e9
      injection e9 with e9 _ _
      subst e9
      rw [hym] at hv9
      injection hv9 with hv9
      subst hv9
      have HXM := Lib.hid hxm
      have HYM := Lib.hid hym
      clear hxm hym hm1
      go_upto_region 17 with fail
      obtain ⟨Xt, HXt⟩ : ∃ X, Hid (X = w10.drew) := ⟨_, rfl⟩
      have hdt : Below w10.heap.size w10 Xt := by rw [HXt.out]; exact bDrew _
      have HT := Lib.hid (H10.out.next hdt)
      have hkt := HK10.out.next hdt
      have b0 := hkt.cell 0
      have b1 := hkt.cell 1
      simp at b0 b1
      have t3 : Xt.cell? ⟨gD, m * 4 + 3, none⟩ = some (.slice (some ⟨gy', 0, none⟩) x.y.length d3) := by rw [HXt.out]; exact k39
      have hrow := HT.out.yrow m x (.slice (some ⟨gy', 0, none⟩) x.y.length d3) (HXM.out) (HYM.out)
      have f0 := hrow.frozenAt (j * 2)
      have gl2 := (hrow.lt gy' rfl).2
      obtain ⟨xj, hxj⟩ : ∃ xj, x.y[j]? = some xj := ⟨_, List.getElem?_eq_getElem hj⟩
      have z0 := own_cell hrow (cCs_at hxj).1
      have s1 := (hrow.stored (j * 2) (.int .i64 cl.tag)).1
      have f1 := s1.frozenAt (j * 2 + 1)
      have z1 := own_cell (j := j * 2 + 1) (u := .int .i64 xj.n) s1 (by rw [List.getElem?_set_ne (by omega)]; exact (cCs_at hxj).2)
      have hjw : IntKind.i64.wrap (j : Int) = (j : Int) := by rw [IntKind.wrap_i64]; omega
      have hjI : (j : Int) < (x.y.length : Int) := by omega
      have HSET := Lib.hid (HT.out.setY cl (HXM.out) (HYM.out) hj)
      clear s1 hrow hxj k39
      refine wp_region_N (fun w' => w' = Xt) (fun j => decide (j < 8)) (by kernel_rfl) ?_
      rw [← HXt.out]
      clear HXt
      have hS0 : (fun w' => w' = Xt) Xt := rfl
      refine wpAnyN_take (i := 0) (v := ?v16) rfl (by kernel_rfl) (by kernel_rfl) (by kernel_rfl) (by kernel_rfl) (fun _ _ _ h => h) (Or.inl ⟨by rfl, ?hy16⟩) (by assumption) ?_
      case hy16 => intro w hSw; obtain rfl := hSw; go_simp; try with_reducible rfl
      simp only [Act.put, List.getElem_toArray, List.getElem_cons_zero, List.setIfInBounds_toArray, List.set_cons_zero, List.set_cons_succ]
      refine wpAnyN_take (i := 1) (v := ?v17) rfl (by kernel_rfl) (by kernel_rfl) (by kernel_rfl) (by kernel_rfl) (fun _ _ _ h => h) (Or.inl ⟨by rfl, ?hy17⟩) (by assumption) ?_
      case hy17 => intro w hSw; obtain rfl := hSw; go_simp; try with_reducible rfl
      simp only [Act.put, List.getElem_toArray, List.getElem_cons_zero, List.getElem_cons_succ, List.setIfInBounds_toArray, List.set_cons_zero, List.set_cons_succ]
      refine wpAnyN_take (i := 2) (v := ?v18) rfl (by kernel_rfl) (by kernel_rfl) (by kernel_rfl) (by kernel_rfl) (fun _ _ _ h => h) (Or.inl ⟨by rfl, ?hy18⟩) (by assumption) ?_
      case hy18 => intro w hSw; obtain rfl := hSw; go_simp; try with_reducible rfl
      simp only [Act.put, List.getElem_toArray, List.getElem_cons_zero, List.getElem_cons_succ, List.setIfInBounds_toArray, List.set_cons_zero, List.set_cons_succ]
      refine wpAnyN_take (i := 3) (v := ?v19) rfl (by kernel_rfl) (by kernel_rfl) (by kernel_rfl) (by kernel_rfl) (fun _ _ _ h => h) (Or.inl ⟨by rfl, ?hy19⟩) (by assumption) ?_
      case hy19 => intro w hSw; obtain rfl := hSw; go_simp; try with_reducible rfl
      simp only [Act.put, List.getElem_toArray, List.getElem_cons_zero, List.getElem_cons_succ, List.setIfInBounds_toArray, List.set_cons_zero, List.set_cons_succ]
      refine wpAnyN_take (i := 4) (v := ?v20) rfl (by kernel_rfl) (by kernel_rfl) (by kernel_rfl) (by kernel_rfl) (fun _ _ _ h => h) (Or.inl ⟨by rfl, ?hy20⟩) (by assumption) ?_
      case hy20 => intro w hSw; obtain rfl := hSw; go_simp; try with_reducible rfl
      simp only [Act.put, List.getElem_toArray, List.getElem_cons_zero, List.getElem_cons_succ, List.setIfInBounds_toArray, List.set_cons_zero, List.set_cons_succ]
      refine wpAnyN_take (i := 5) (v := ?v21) rfl (by kernel_rfl) (by kernel_rfl) (by kernel_rfl) (by kernel_rfl) (fun _ _ _ h => h) (Or.inl ⟨by rfl, ?hy21⟩) (by assumption) ?_
      case hy21 => intro w hSw; obtain rfl := hSw; go_simp; try with_reducible rfl
      simp only [Act.put, List.getElem_toArray, List.getElem_cons_zero, List.getElem_cons_succ, List.setIfInBounds_toArray, List.set_cons_zero, List.set_cons_succ]
      refine wpAnyN_take (i := 6) (v := ?v22) rfl (by kernel_rfl) (by kernel_rfl) (by kernel_rfl) (by kernel_rfl) (fun _ _ _ h => h) (Or.inl ⟨by rfl, ?hy22⟩) (by assumption) ?_
      case hy22 => intro w hSw; obtain rfl := hSw; go_simp; try with_reducible rfl
      simp only [Act.put, List.getElem_toArray, List.getElem_cons_zero, List.getElem_cons_succ, List.setIfInBounds_toArray, List.set_cons_zero, List.set_cons_succ]
      refine wpAnyN_take (i := 7) (v := ?v23) rfl (by kernel_rfl) (by kernel_rfl) (by kernel_rfl) (by kernel_rfl) (fun _ _ _ h => h) (Or.inl ⟨by rfl, ?hy23⟩) (by assumption) ?_
      case hy23 => intro w hSw; obtain rfl := hSw; go_simp; try with_reducible rfl
      simp only [Act.put, List.getElem_toArray, List.getElem_cons_zero, List.getElem_cons_succ, List.setIfInBounds_toArray, List.set_cons_zero, List.set_cons_succ]
      refine wpAnyN_one (i := 8) (by kernel_rfl) rfl (fun K hK => ?_)
      simp only [List.getElem_toArray, List.getElem_cons_zero, List.getElem_cons_succ]
      go_simp
      refine hK _ _ (fun h => absurd h (by decide)) ?_
      (try simp only [Act.put, List.setIfInBounds_toArray, List.set_cons_zero, List.set_cons_succ])
      refine wpAnyN_done (by kernel_rfl) ?_ _
      go_wp2_with fail
      go_ret
      have hgy3 : w.heap.size ≤ gy' := Nat.le_trans hW2w (HO7.out.lt gy' rfl).1
      have e9 : (s.envs.take m ++ [x]).set m { x with y := x.y.set j cl } = s.envs.take m ++ [{ x with y := x.y.set j cl }] := by
        rw [List.set_append_right _ _ (by rw [List.length_take]; omega), List.length_take, Nat.min_eq_left hmn, Nat.sub_self]
        rfl
      have hF := HSET.out
      rw [e9] at hF
      exact ⟨rfl, ⟨_, _, _, _, hF, HP.out.2⟩, (HKF.out.trans (Kept.below (hb10.trans (hdt.mono hb10.size)))).updNew (((Upd.refl gy' _).set _ _).set _ _) hgy3⟩
    · simp only [List.getElem_toArray, List.getElem_cons_zero, List.getElem_cons_succ]
      go_simp
      refine hK1 _ _ (fun _ => ⟨hS0.1.alloc _, hS0.2.alloc _⟩) ?_
      (try simp only [Act.put, List.setIfInBounds_toArray, List.set_cons_zero, List.set_cons_succ])
      refine wpAnyN_one (i := 6) (by kernel_rfl) rfl (fun K2 hK2 => ?_)
      simp only [List.getElem_toArray, List.getElem_cons_zero, List.getElem_cons_succ]
      go_simp
      refine (cut_env _ ⟨hcap, fun e => by cases e⟩ hn hmI.out).mono ?_
      rintro e w6 ⟨rfl, h6⟩
      obtain rfl := h6.symm
      refine hK2 _ _ (fun _ => ⟨hS0.1.alloc _, hS0.2.alloc _⟩) ?_
      (try simp only [Act.put, List.setIfInBounds_toArray, List.set_cons_zero, List.set_cons_succ])
      have hX7 : B ≤ X5.heap.size := Nat.le_trans hBw HB7.out.size
      refine wpAnyN_one (i := 9) (by kernel_rfl) rfl (fun K hK => ?_)
      simp only [List.getElem_toArray, List.getElem_cons_zero, List.getElem_cons_succ]
      rw [if_pos (by rfl)]
      have hblk := Blk.new X5 54 #[.int .i64 x.prev, .int .i64 x.id, .int .i64 x.pc, .slice A3 x.y.length d3]
      have hrw := own_cut (HS7.out.envs.alloc (.cells #[.int .i64 x.prev, .int .i64 x.id, .int .i64 x.pc, .slice A3 x.y.length d3] 54)) hmn
      rw [eCs_take _ _ _ HS7.out.ylen] at hrw
      refine wp_append_lies _ (.tmp 54) (.tmp 56) 22 rfl B 54 i1 _ 4 48 Try.underlying22 hi1 hz1 hy1 hb1' rfl (by decide) (.slice (some ⟨g, 0, none⟩) m cap) m (eCs (s.envs.take m) (ys.take m)) rfl hrw ⟨X5.heap.size, 0, none⟩ 1 1 (eCs [x] [.slice A3 x.y.length d3]) rfl ?d1 ?d2 ?d3 (by omega) ?d4 ?d5 ?d6 _ rfl ?_
      case d1 => rfl
      case d2 =>
        intro i u hi
        have h := hblk.cell i
        have e : (⟨X5.heap.size, 0, none⟩ : Addr).add i = ⟨X5.heap.size, i, none⟩ := by cases i <;> simp [Addr.add]
        rw [e]
        exact h.trans (by simpa [eCs] using hi)
      case d3 =>
        intro u hu
        simp only [eCs, List.mem_cons, List.not_mem_nil, or_false] at hu
        rcases hu with rfl | rfl | rfl | rfl <;> rfl
      case d4 => unfold maxLen; omega
      case d5 => omega
      case d6 => simp; omega
      intro gD e8 w8 ho8 hg8 hat8 hlt8
      have hgp : Value.ownBlock (.slice (some ⟨g, 0, none⟩) s.envs.length cap) ≠ some p := fun e => own_ne HS7.out.envs HS7.out.box (by decide) e rfl
      have hg8' : (X5.alloc (.cells #[.int .i64 x.prev, .int .i64 x.id, .int .i64 x.pc, .slice A3 x.y.length d3] 54)).grownBy w8 (Value.ownBlock (.slice (some ⟨g, 0, none⟩) s.envs.length cap)) := hg8
      have k8 : Blk w8 p 25 _ := Blk.grown (w := X5.alloc (.cells #[.int .i64 x.prev, .int .i64 x.id, .int .i64 x.pc, .slice A3 x.y.length d3] 54)) (HS7.out.box.alloc _) hg8' hgp
      have f0 := k8.frozen 0
      have g0 := k8.cell 0
      have l8 := k8.lt
      simp at g0
      have hgq : Value.ownBlock (.slice (some ⟨g, 0, none⟩) s.envs.length cap) ≠ some q2 := fun e => hfl q2 (foot_mem (by simp) e) rfl
      have kq8 : Blk w8 q2 54 _ := Blk.grown (w := X5.alloc (.cells #[.int .i64 x.prev, .int .i64 x.id, .int .i64 x.pc, .slice A3 x.y.length d3] 54)) (HQ7.out.alloc _) hg8' hgq
      refine hK _ _ (fun _ => ⟨k8, kq8⟩) ?_
      (try simp only [Act.put, List.setIfInBounds_toArray, List.set_cons_zero, List.set_cons_succ])
      refine wpAnyN_one (i := 10) (by kernel_rfl) rfl (fun K hK => ?_)
      simp only [List.getElem_toArray, List.getElem_cons_zero, List.getElem_cons_succ]
      go_simp
      refine hK _ _ (fun h => absurd h (by decide)) ?_
      (try simp only [Act.put, List.setIfInBounds_toArray, List.set_cons_zero, List.set_cons_succ])
      refine wpAnyN_one (i := 11) (by kernel_rfl) rfl (fun K hK => ?_)
      simp only [List.getElem_toArray, List.getElem_cons_zero, List.getElem_cons_succ]
      go_simp
      refine hK _ _ (fun h => absurd h (by decide)) ?_
      (try simp only [Act.put, List.setIfInBounds_toArray, List.set_cons_zero, List.set_cons_succ])
      refine wpAnyN_one (i := 12) (by kernel_rfl) rfl (fun K hK => ?_)
      simp only [List.getElem_toArray, List.getElem_cons_zero, List.getElem_cons_succ]
      go_simp
      refine hK _ _ (fun h => absurd h (by decide)) ?_
      (try simp only [Act.put, List.setIfInBounds_toArray, List.set_cons_zero, List.set_cons_succ])
      refine wpAnyN_done (by kernel_rfl) ?_ _
      have hbF := (k8.set_ 0 (.slice (some ⟨gD, 0, none⟩) (m + 1) e8)).set_ 1 (.int .i64 ((m : Int) + 1))
      have huF := ((Upd.refl p w8).set 0 (.slice (some ⟨gD, 0, none⟩) (m + 1) e8)).set 1 (.int .i64 ((m : Int) + 1))
      have hk9 := k8.set_ 0 (.slice (some ⟨gD, 0, none⟩) (m + 1) e8)
      have f1 := hk9.frozen 1
      have g1 := hk9.cell 1
      have g00 := hk9.cell 0
      have l9 := hk9.lt
      simp at g1 g00
      obtain ⟨W9, HW9⟩ : ∃ X, Hid (X = w8.setCell ⟨p, 0, none⟩ (.slice (some ⟨gD, 0, none⟩) (m + 1) e8)) := ⟨_, rfl⟩
      rw [← HW9.out] at hbF huF f1 g1 g00 l9 ⊢
      obtain ⟨WF, HWF⟩ : ∃ X, Hid (X = W9.setCell ⟨p, 1, none⟩ (.int .i64 ((m : Int) + 1))) := ⟨_, rfl⟩
      rw [← HWF.out] at hbF huF
      have hz : ∀ i, i < X5.heap.size → i ≠ p → some i ≠ Value.ownBlock (.slice (some ⟨g, 0, none⟩) s.envs.length cap) → WF.heap[i]? = X5.heap[i]? := fun i h1 h2 h3 =>
        (huF.block i h2).trans ((hg8.block i (by simp; omega) h3).trans (Below.heap_alloc X5 _ i h1))
      have hrow : ∀ {t size n B' : Nat} {v : Value} {xs : List Value}, X5.ownsRow B' t size v n xs → t ≠ 25 → t ≠ 54 → WF.ownsRow B' t size v n xs := fun h1 t1 t2 =>
        own_stay h1 fun i hi => hz i (h1.lt i hi).2 (own_ne h1 HS7.out.box t1 hi) (own_apart h1 HS7.out.envs t2 hi)
      have hP := HS7.out.grown (WF := WF) (x := x) (vy := .slice A3 x.y.length d3) (b := w.heap.size) (g := gD) (e8 := e8) (e := (m : Int) + 1) hm.out HFL.out hz (by simpa using hbF) (own_stay ho8 fun i hi => huF.block i (own_ne ho8 k8 (by decide) hi))
        (own_base (hrow HO7.out (by decide) (by decide)) (by omega)) (fun i hi => Nat.le_trans hW2w (HO7.out.lt i hi).1) (by
          rcases hat8 with h8 | h8
          · exact .inl (by simpa [Value.ownBlock] using h8)
          · simp at h8
            exact .inr (by have := HB7.out.size; omega))
      have hKF : Kept (foot p (.slice (some ⟨g, 0, none⟩) s.envs.length cap) vc ys cs) w WF := by
        refine ⟨huF.os.trans (hg8.os.trans HB7.out.os), huF.tape.trans (hg8.tape.trans HB7.out.tape), huF.output.trans (hg8.output.trans HB7.out.output), ?_, fun i hi hf => (hz i (Nat.lt_of_lt_of_le hi HB7.out.size) (fun e => hf (e ▸ List.mem_cons_self)) (fun e => hf (foot_mem (by simp) e.symm))).trans (HB7.out.block i hi)⟩
        rw [huF.size]
        have h1 := hg8.size
        have h2 := HB7.out.size
        simp at h1
        omega
      have HKP := Lib.hid (show Blk WF q5 38 _ from (hz q5 HK7.out.lt (by have := HFL.out p List.mem_cons_self; omega) (fun e => by have := HFL.out q5 (foot_mem (by simp) e.symm); omega)).trans HK7.out)
      have HP := Lib.hid hP
      have HKF := Lib.hid hKF
      clear hP hKF hrow hz hbF huF k8 hk9 ho8 hg8 hg8' hat8 hS0 hblk hrw f0 g0 kq8 HW9 HQ7 HS7 HK7
      go_upto_region 16 with fail
      rw [← HWF.out]
      clear HWF f1 g1 g00 l9 l8
      go_wp2_with fail
      have hm1 : (s.envs.take m ++ [x]).length = m + 1 := by rw [List.length_append, List.length_take]; simp; omega
      have HC2 := current_at (g := gD) (cap := e8) WF (by have h := HP.out.1; rw [← hm1] at h; exact h) (by show (s.envs.take m ++ [x]).length ≤ _; have := hmI.out; omega) (n := m) rfl (by show m < (s.envs.take m ++ [x]).length; omega)
      refine HC2.mono ?_
      clear HC2
      rintro e w10 ⟨rfl, hb10⟩
      have H10 := Lib.hid (HP.out.1.next hb10)
      have HK10 := Lib.hid (HKP.out.next hb10)
      obtain ⟨gy', gc', ey⟩ : ∃ gy gc, Value.slice A3 x.y.length d3 = .slice (some ⟨gy, 0, none⟩) x.y.length gc := own_head HO7.out (by omega)
      injection ey with ey _ ey2
      subst ey ey2
      have hxm : (s.envs.take m ++ [x])[m]? = some x := by rw [List.getElem?_append_right (by rw [List.length_take]; omega), List.length_take, Nat.min_eq_left hmn, Nat.sub_self]; rfl
      have hym : (ys.take m ++ [Value.slice (some ⟨gy', 0, none⟩) x.y.length d3])[m]? = some (.slice (some ⟨gy', 0, none⟩) x.y.length d3) := by
        have := H10.out.ylen
        have hl : (ys.take m).length = m := by rw [hm1] at this; simpa using this
        rw [List.getElem?_append_right (by omega), hl, Nat.sub_self]
        rfl
      obtain ⟨g9, cap9, v9, e9, -, hv9, -, -, -, -, k39⟩ := H10.out.enAt hxm
      injection e9 with e9 el9 ec9
      clear el9 ec9
      injection e9 with e9
      injection e9 with e9 _ _
      subst e9
      rw [hym] at hv9
      injection hv9 with hv9
      subst hv9
      have HXM := Lib.hid hxm
      have HYM := Lib.hid hym
      clear hxm hym hm1
      go_upto_region 17 with fail
      obtain ⟨Xt, HXt⟩ : ∃ X, Hid (X = w10.drew) := ⟨_, rfl⟩
      have hdt : Below w10.heap.size w10 Xt := by rw [HXt.out]; exact bDrew _
      have HT := Lib.hid (H10.out.next hdt)
      have hkt := HK10.out.next hdt
      have b0 := hkt.cell 0
      have b1 := hkt.cell 1
      simp at b0 b1
      have t3 : Xt.cell? ⟨gD, m * 4 + 3, none⟩ = some (.slice (some ⟨gy', 0, none⟩) x.y.length d3) := by rw [HXt.out]; exact k39
      have hrow := HT.out.yrow m x (.slice (some ⟨gy', 0, none⟩) x.y.length d3) (HXM.out) (HYM.out)
      have f0 := hrow.frozenAt (j * 2)
      have gl2 := (hrow.lt gy' rfl).2
      obtain ⟨xj, hxj⟩ : ∃ xj, x.y[j]? = some xj := ⟨_, List.getElem?_eq_getElem hj⟩
      have z0 := own_cell hrow (cCs_at hxj).1
      have s1 := (hrow.stored (j * 2) (.int .i64 cl.tag)).1
      have f1 := s1.frozenAt (j * 2 + 1)
      have z1 := own_cell (j := j * 2 + 1) (u := .int .i64 xj.n) s1 (by rw [List.getElem?_set_ne (by omega)]; exact (cCs_at hxj).2)
      have hjw : IntKind.i64.wrap (j : Int) = (j : Int) := by rw [IntKind.wrap_i64]; omega
      have hjI : (j : Int) < (x.y.length : Int) := by omega
      have HSET := Lib.hid (HT.out.setY cl (HXM.out) (HYM.out) hj)
      clear s1 hrow hxj k39
      refine wp_region_N (fun w' => w' = Xt) (fun j => decide (j < 8)) (by kernel_rfl) ?_
      rw [← HXt.out]
      clear HXt
      have hS0 : (fun w' => w' = Xt) Xt := rfl
      refine wpAnyN_take (i := 0) (v := ?w16) rfl (by kernel_rfl) (by kernel_rfl) (by kernel_rfl) (by kernel_rfl) (fun _ _ _ h => h) (Or.inl ⟨by rfl, ?hw16⟩) (by assumption) ?_
      case hw16 => intro w hSw; obtain rfl := hSw; go_simp; try with_reducible rfl
      simp only [Act.put, List.getElem_toArray, List.getElem_cons_zero, List.setIfInBounds_toArray, List.set_cons_zero, List.set_cons_succ]
      refine wpAnyN_take (i := 1) (v := ?w17) rfl (by kernel_rfl) (by kernel_rfl) (by kernel_rfl) (by kernel_rfl) (fun _ _ _ h => h) (Or.inl ⟨by rfl, ?hw17⟩) (by assumption) ?_
      case hw17 => intro w hSw; obtain rfl := hSw; go_simp; try with_reducible rfl
      simp only [Act.put, List.getElem_toArray, List.getElem_cons_zero, List.getElem_cons_succ, List.setIfInBounds_toArray, List.set_cons_zero, List.set_cons_succ]
      refine wpAnyN_take (i := 2) (v := ?w18) rfl (by kernel_rfl) (by kernel_rfl) (by kernel_rfl) (by kernel_rfl) (fun _ _ _ h => h) (Or.inl ⟨by rfl, ?hw18⟩) (by assumption) ?_
      case hw18 => intro w hSw; obtain rfl := hSw; go_simp; try with_reducible rfl
      simp only [Act.put, List.getElem_toArray, List.getElem_cons_zero, List.getElem_cons_succ, List.setIfInBounds_toArray, List.set_cons_zero, List.set_cons_succ]
      refine wpAnyN_take (i := 3) (v := ?w19) rfl (by kernel_rfl) (by kernel_rfl) (by kernel_rfl) (by kernel_rfl) (fun _ _ _ h => h) (Or.inl ⟨by rfl, ?hw19⟩) (by assumption) ?_
      case hw19 => intro w hSw; obtain rfl := hSw; go_simp; try with_reducible rfl
      simp only [Act.put, List.getElem_toArray, List.getElem_cons_zero, List.getElem_cons_succ, List.setIfInBounds_toArray, List.set_cons_zero, List.set_cons_succ]
      refine wpAnyN_take (i := 4) (v := ?w20) rfl (by kernel_rfl) (by kernel_rfl) (by kernel_rfl) (by kernel_rfl) (fun _ _ _ h => h) (Or.inl ⟨by rfl, ?hw20⟩) (by assumption) ?_
      case hw20 => intro w hSw; obtain rfl := hSw; go_simp; try with_reducible rfl
      simp only [Act.put, List.getElem_toArray, List.getElem_cons_zero, List.getElem_cons_succ, List.setIfInBounds_toArray, List.set_cons_zero, List.set_cons_succ]
      refine wpAnyN_take (i := 5) (v := ?w21) rfl (by kernel_rfl) (by kernel_rfl) (by kernel_rfl) (by kernel_rfl) (fun _ _ _ h => h) (Or.inl ⟨by rfl, ?hw21⟩) (by assumption) ?_
      case hw21 => intro w hSw; obtain rfl := hSw; go_simp; try with_reducible rfl
      simp only [Act.put, List.getElem_toArray, List.getElem_cons_zero, List.getElem_cons_succ, List.setIfInBounds_toArray, List.set_cons_zero, List.set_cons_succ]
      refine wpAnyN_take (i := 6) (v := ?w22) rfl (by kernel_rfl) (by kernel_rfl) (by kernel_rfl) (by kernel_rfl) (fun _ _ _ h => h) (Or.inl ⟨by rfl, ?hw22⟩) (by assumption) ?_
      case hw22 => intro w hSw; obtain rfl := hSw; go_simp; try with_reducible rfl
      simp only [Act.put, List.getElem_toArray, List.getElem_cons_zero, List.getElem_cons_succ, List.setIfInBounds_toArray, List.set_cons_zero, List.set_cons_succ]
      refine wpAnyN_take (i := 7) (v := ?w23) rfl (by kernel_rfl) (by kernel_rfl) (by kernel_rfl) (by kernel_rfl) (fun _ _ _ h => h) (Or.inl ⟨by rfl, ?hw23⟩) (by assumption) ?_
      case hw23 => intro w hSw; obtain rfl := hSw; go_simp; try with_reducible rfl
      simp only [Act.put, List.getElem_toArray, List.getElem_cons_zero, List.getElem_cons_succ, List.setIfInBounds_toArray, List.set_cons_zero, List.set_cons_succ]
      refine wpAnyN_one (i := 8) (by kernel_rfl) rfl (fun K hK => ?_)
      simp only [List.getElem_toArray, List.getElem_cons_zero, List.getElem_cons_succ]
      go_simp
      refine hK _ _ (fun h => absurd h (by decide)) ?_
      (try simp only [Act.put, List.setIfInBounds_toArray, List.set_cons_zero, List.set_cons_succ])
      refine wpAnyN_done (by kernel_rfl) ?_ _
      go_wp2_with fail
      go_ret
      have hgy3 : w.heap.size ≤ gy' := Nat.le_trans hW2w (HO7.out.lt gy' rfl).1
      have e9 : (s.envs.take m ++ [x]).set m { x with y := x.y.set j cl } = s.envs.take m ++ [{ x with y := x.y.set j cl }] := by
        rw [List.set_append_right _ _ (by rw [List.length_take]; omega), List.length_take, Nat.min_eq_left hmn, Nat.sub_self]
        rfl
      have hF := HSET.out
      rw [e9] at hF
      exact ⟨rfl, ⟨_, _, _, _, hF, HP.out.2⟩, (HKF.out.trans (Kept.below (hb10.trans (hdt.mono hb10.size)))).updNew (((Upd.refl gy' _).set _ _).set _ _) hgy3⟩
  · have hv : setV s y cl = .error 5 := by unfold setV curN; rw [if_neg hc]
    rw [hv]
    have HCUR := Lib.hid (current_no W HS.out (by omega))
    go_enter Try.func20, Try.ntmps20
    go_upto_region 1 with fail
    rw [← HW.out]
    clear HW
    go_wp2_with fail
    refine HCUR.out.mono ?_
    rintro e w1 ⟨rfl, hb1⟩
    have H1 := Lib.hid (HS.out.next hb1)
    have HB1 := Lib.hid (bNext HB.out hb1)
    clear hb1
    go_wp2_with fail
    go_ret
    exact ⟨rfl, ⟨_, _, _, _, H1.out, fun g hg => .inl hg⟩, Kept.below HB1.out⟩
end Go.Proofs.Ytpkpffnabcgcbaa
