/-
  An environment's list is cut short; the walk of Trim.
-/
import Derived.Test.YtpkpffnabcgcbaaFh
namespace Go.Proofs.Ytpkpffnabcgcbaa
open Go.RowKit

theorem eCs_set : ∀ {l : List En} {vs : List Value} {i : Nat} {x : En} (v : Value) (y : List Cl), l[i]? = some x → i < vs.length → eCs (l.set i { x with y := y }) (vs.set i v) = (eCs l vs).set (i * 4 + 3) v
  | [], _, _, _, _, _, h, _ => by simp at h
  | _ :: _, [], _, _, _, _, _, h => by simp at h
  | z :: l, u :: vs, 0, x, v, y, h, _ => by simp at h; subst h; simp [eCs]
  | z :: l, u :: vs, i + 1, x, v, y, h, hi => by
    simp at h hi
    have := eCs_set v y h hi
    rw [show (i + 1) * 4 + 3 = i * 4 + 3 + 1 + 1 + 1 + 1 by omega]
    simp only [List.set_cons_succ, eCs, this]
theorem blks_set {l : List Value} {i : Nat} {v v' : Value} (h : l[i]? = some v) (he : v'.ownBlock = v.ownBlock) : blks (l.set i v') = blks l := by
  induction l generalizing i with
  | nil => simp at h
  | cons z t ih =>
    cases i with
    | zero =>
      simp at h
      subst h
      simp only [List.set_cons_zero, blks, List.filterMap_cons, he]
    | succ i =>
      simp at h
      have := ih h
      unfold blks at this ⊢
      simp only [List.set_cons_succ, List.filterMap_cons, this]
section
variable {w : World} {B p g cap : Nat} {s : St} {vc : Value} {ys : List Value} {cs : List (Value × Value)}
/-- a row of another type does not lie in the row of the environments -/
theorem own_far {t t' n n' size size' : Nat} {v : Value} {xs xs' : List Value} (h : w.ownsRow B t size v n xs) (hg : w.ownsRow B t' size' (.slice (some ⟨g, 0, none⟩) n' cap) n' xs') (ht : t ≠ t') (o : Nat) (u : Value) : (w.setCell ⟨g, o, none⟩ u).ownsRow B t size v n xs := by
  refine own_stay h fun k hk => heap_setCell_other _ _ _ _ ?_
  rintro e
  have e : k = g := e
  subst e
  obtain ⟨c1, h1⟩ := own_ty h hk
  obtain ⟨c2, h2⟩ := own_ty hg (g := k) rfl
  rw [h1] at h2
  injection h2 with h2
  injection h2 with _ h2 _
  exact ht h2
theorem Stk.setEn (h : Stk w B p s (.slice (some ⟨g, 0, none⟩) s.envs.length cap) vc ys cs) {i : Nat} {x : En} {v v' : Value} {y : List Cl} (hx : s.envs[i]? = some x) (hv : ys[i]? = some v) (he : v'.ownBlock = v.ownBlock)
    (hy : w.ownsRow B 38 2 v' y.length (cCs y)) :
    Stk (w.setCell ⟨g, i * 4 + 3, none⟩ v') B p ⟨s.envs.set i { x with y := y }, s.e, s.chs⟩ (.slice (some ⟨g, 0, none⟩) s.envs.length cap) vc (ys.set i v') cs ∧ g ≠ p := by
  have hlt := (List.getElem?_eq_some_iff.1 hx).1
  have hvl := (List.getElem?_eq_some_iff.1 hv).1
  have hgp : g ≠ p := own_ne h.envs h.box (by decide) rfl
  have hst := (h.envs.stored (i * 4 + 3) v').1
  rw [← eCs_set v' y hx hvl] at hst
  refine ⟨⟨h.box.far (by simp; exact fun e => hgp e.symm) _, h.low, ?_, own_far h.chs h.envs (by decide) _ _, by simp [h.ylen], h.clen, fun j z u hz hu => ?_, fun j z u hz hu => ?_, ?_⟩, hgp⟩
  · show (w.setCell ⟨g, i * 4 + 3, none⟩ v').ownsRow B 54 4 _ (s.envs.set i { x with y := y }).length _
    rw [List.length_set]
    exact hst
  · have hz' : (s.envs.set i { x with y := y })[j]? = some z := hz
    by_cases hij : i = j
    · subst hij
      rw [List.getElem?_set_self hlt] at hz'
      rw [List.getElem?_set_self hvl] at hu
      injection hz' with hz'
      injection hu with hu
      subst hz' hu
      exact own_far hy h.envs (by decide) _ _
    · rw [List.getElem?_set_ne hij] at hz' hu
      exact own_far (h.yrow j z u hz' hu) h.envs (by decide) _ _
  · obtain ⟨r1, r2⟩ := h.crow j z u hz hu
    exact ⟨own_far r1 h.envs (by decide) _ _, own_far r2 h.envs (by decide) _ _⟩
  · have h1 := h.nodup
    rw [blks_app, blks_app] at h1 ⊢
    rw [blks_set hv he]
    exact h1
end
theorem foot_set {p : Nat} {ve vc : Value} {ys : List Value} {cs : List (Value × Value)} {i : Nat} {v v' : Value} (hv : ys[i]? = some v) (he : v'.ownBlock = v.ownBlock) : foot p ve vc (ys.set i v') cs = foot p ve vc ys cs := by
  unfold foot
  have h : ∀ l : List Value, blks (ve :: vc :: l ++ cs.map (·.1) ++ cs.map (·.2)) = blks [ve, vc] ++ blks l ++ blks (cs.map (·.1)) ++ blks (cs.map (·.2)) := fun l => by
    rw [← blks_app, ← blks_app, ← blks_app]
    rfl
  rw [h, h, blks_set hv he]
theorem envs_mem {p g n c : Nat} {vc : Value} {ys : List Value} {cs : List (Value × Value)} : g ∈ foot p (.slice (some ⟨g, 0, none⟩) n c) vc ys cs := by
  unfold foot blks
  exact List.mem_cons_of_mem _ (List.mem_filterMap.2 ⟨.slice (some ⟨g, 0, none⟩) n c, by simp, rfl⟩)
def trimV (s : St) (t : Int) : Except Int St := match curN s with
  | some n => match s.envs[n]? with
    | some x => if t < 0 ∨ (x.y.length : Int) < t then .error 1 else if protV s < s.e then .ok ⟨s.envs.set n { x with y := x.y.take t.toNat }, s.e, s.chs⟩ else .ok s
    | none => .error 5
  | none => .error 5

set_option maxHeartbeats 2000000 in
theorem trim_any {B p : Nat} {s : St} {ve vc : Value} {ys : List Value} {cs : List (Value × Value)} (t : Int) (w : World) (h : Stk w B p s ve vc ys cs) (hn : s.envs.length ≤ 1000000000000) (hnc : s.chs.length ≤ 1000000000000) (hny : ∀ x ∈ s.envs, x.y.length ≤ 1000000000000) :
    Calls Try.prog 28 #[.pointer (some ⟨p, 0, none⟩), .int .i64 t] w (RetP B p (foot p ve vc ys cs) (.int .i64 (errOf (trimV s t))) (stOf s (trimV s t)) w) := by
  by_cases hc : 1 ≤ s.e ∧ s.e ≤ s.envs.length
  · obtain ⟨n, hn1⟩ : ∃ n : Nat, s.e = (n : Int) + 1 := ⟨(s.e - 1).toNat, by omega⟩
    have hlt : n < s.envs.length := by omega
    obtain ⟨x, hx⟩ : ∃ x, s.envs[n]? = some x := ⟨_, List.getElem?_eq_getElem hlt⟩
    have hxl := hny x (List.mem_of_getElem? hx)
    have htv : trimV s t = if t < 0 ∨ (x.y.length : Int) < t then .error 1 else if protV s < s.e then .ok ⟨s.envs.set n { x with y := x.y.take t.toNat }, s.e, s.chs⟩ else .ok s := by
      unfold trimV curN
      rw [if_pos hc, show (s.e - 1).toNat = n by omega]
      simp only [hx]
    rw [htv]
    clear htv
    obtain ⟨g, cap, v, rfl, hcap, hyv, hyr, -, -, -, -⟩ := h.enAt hx
    by_cases ht : t < 0
    · rw [if_pos (.inl ht)]
      have H := Lib.hid h
      have HCUR := Lib.hid (current_at w h hn hn1 hlt)
      clear h hn1
      go_enter Try.func28, Try.ntmps28
      go_wp2_with fail
      refine HCUR.out.mono ?_
      rintro e w1 ⟨rfl, hb1⟩
      have H1 := Lib.hid (H.out.next hb1)
      obtain ⟨g', cap1, v1, e1, hcap1, hyv1, hyr1, k0, k1, k2, k3⟩ := H1.out.enAt hx
      injection e1 with e1 _ ecap
      injection e1 with e1
      injection e1 with e1 _ _
      subst e1 ecap
      obtain rfl : v1 = v := by rw [hyv] at hyv1; injection hyv1 with e; exact e.symm
      have HB1 := Lib.hid hb1
      have HYR := Lib.hid hyr1
      obtain ⟨Ay, cy, rfl, hcy⟩ := own_form hyr1
      have HCY := Lib.hid hcy
      clear hb1 HCUR hyv1 H hyr hcy hyr1 k0 k1 k2
      go_wp2_with fail
      go_ret
      exact ⟨rfl, ⟨_, _, _, _, H1.out, fun g hg => .inl hg⟩, Kept.below HB1.out⟩
    · by_cases ht2 : (x.y.length : Int) < t
      · rw [if_pos (.inr ht2)]
        have H := Lib.hid h
        have HCUR := Lib.hid (current_at w h hn hn1 hlt)
        clear h hn1
        go_enter Try.func28, Try.ntmps28
        go_wp2_with fail
        refine HCUR.out.mono ?_
        rintro e w1 ⟨rfl, hb1⟩
        have H1 := Lib.hid (H.out.next hb1)
        obtain ⟨g', cap1, v1, e1, hcap1, hyv1, hyr1, k0, k1, k2, k3⟩ := H1.out.enAt hx
        injection e1 with e1 _ ecap
        injection e1 with e1
        injection e1 with e1 _ _
        subst e1 ecap
        obtain rfl : v1 = v := by rw [hyv] at hyv1; injection hyv1 with e; exact e.symm
        have HB1 := Lib.hid hb1
        have HYR := Lib.hid hyr1
        obtain ⟨Ay, cy, rfl, hcy⟩ := own_form hyr1
        have HCY := Lib.hid hcy
        clear hb1 HCUR hyv1 H hyr hcy hyr1 k0 k1 k2
        go_wp2_with fail
        go_ret
        exact ⟨rfl, ⟨_, _, _, _, H1.out, fun g hg => .inl hg⟩, Kept.below HB1.out⟩
      · rw [if_neg (by omega)]
        obtain ⟨m, rfl⟩ : ∃ m : Nat, t = (m : Int) := ⟨t.toNat, by omega⟩
        have hml : m ≤ x.y.length := by omega
        by_cases hpr : protV s < s.e
        · rw [if_pos hpr, Int.toNat_natCast]
          have H := Lib.hid h
          have HCUR := Lib.hid (current_at w h hn hn1 hlt)
          clear h hn1
          go_enter Try.func28, Try.ntmps28
          go_wp2_with fail
          refine HCUR.out.mono ?_
          rintro e w1 ⟨rfl, hb1⟩
          have H1 := Lib.hid (H.out.next hb1)
          obtain ⟨g', cap1, v1, e1, hcap1, hyv1, hyr1, k0, k1, k2, k3⟩ := H1.out.enAt hx
          injection e1 with e1 _ ecap
          injection e1 with e1
          injection e1 with e1 _ _
          subst e1 ecap
          obtain rfl : v1 = v := by rw [hyv] at hyv1; injection hyv1 with e; exact e.symm
          have HB1 := Lib.hid hb1
          have HYR := Lib.hid hyr1
          obtain ⟨Ay, cy, rfl, hcy⟩ := own_form hyr1
          have HCY := Lib.hid hcy
          clear hb1 HCUR hyv1 H hyr hcy hyr1 k0 k1 k2
          go_upto_region 8 with fail
          obtain ⟨X0, HX⟩ : ∃ X, Hid (X = w1.drew) := ⟨_, rfl⟩
          have hd0 : Below w1.heap.size w1 X0 := by rw [HX.out]; exact bDrew w1
          have H2 := Lib.hid (H1.out.next hd0)
          have HB2 := Lib.hid (bNext HB1.out hd0)
          have HY2 := Lib.hid (own_stay (w' := X0) HYR.out fun k hk => hd0.block k (HYR.out.lt k hk).2)
          have k3x : X0.cell? ⟨g, n * 4 + 3, none⟩ = some (.slice Ay x.y.length cy) := by rw [HX.out]; exact k3
          obtain ⟨c0, c1, c2⟩ := H2.out.cells
          have hl := H2.out.box.lt
          refine wp_region_N (fun w' => w' = X0) (fun _ => true) (by kernel_rfl) ?_
          rw [← HX.out]
          clear HX hd0 k3 H1 HB1 HYR
          have hS0 : (fun w' => w' = X0) X0 := rfl
          refine wpAnyN_take (i := 0) (v := ?v1) rfl (by kernel_rfl) (by kernel_rfl) (by kernel_rfl) (by kernel_rfl) (fun _ _ _ h => h) (Or.inl ⟨by rfl, ?hy1⟩) (by assumption) ?_
          case hy1 => intro w hSw; obtain rfl := hSw; go_simp; try with_reducible rfl
          simp only [Act.put, List.getElem_toArray, List.getElem_cons_zero, List.setIfInBounds_toArray, List.set_cons_zero, List.set_cons_succ]
          refine wpAnyN_take (i := 1) (v := ?v2) rfl (by kernel_rfl) (by kernel_rfl) (by kernel_rfl) (by kernel_rfl) (fun _ _ _ h => h) (Or.inl ⟨by rfl, ?hy2⟩) (by assumption) ?_
          case hy2 => intro w hSw; obtain rfl := hSw; go_simp; try with_reducible rfl
          simp only [Act.put, List.getElem_toArray, List.getElem_cons_zero, List.getElem_cons_succ, List.setIfInBounds_toArray, List.set_cons_zero, List.set_cons_succ]
          refine wpAnyN_take (i := 2) (v := ?v3) rfl (by kernel_rfl) (by kernel_rfl) (by kernel_rfl) (by kernel_rfl) (fun _ _ _ h => h) (Or.inl ⟨by rfl, ?hy3⟩) (by assumption) ?_
          case hy3 => intro w hSw; obtain rfl := hSw; go_simp; try with_reducible rfl
          simp only [Act.put, List.getElem_toArray, List.getElem_cons_zero, List.getElem_cons_succ, List.setIfInBounds_toArray, List.set_cons_zero, List.set_cons_succ]
          refine wpAnyN_take (i := 3) (v := ?v4) rfl (by kernel_rfl) (by kernel_rfl) (by kernel_rfl) (by kernel_rfl) (fun _ _ _ h => h) (Or.inl ⟨by rfl, ?hy4⟩) (by assumption) ?_
          case hy4 => intro w hSw; obtain rfl := hSw; go_simp; try with_reducible rfl
          simp only [Act.put, List.getElem_toArray, List.getElem_cons_zero, List.getElem_cons_succ, List.setIfInBounds_toArray, List.set_cons_zero, List.set_cons_succ]
          refine wpAnyN_take (i := 4) (v := ?v5) rfl (by kernel_rfl) (by kernel_rfl) (by kernel_rfl) (by kernel_rfl) (fun _ _ _ h => h) (Or.inl ⟨by rfl, ?hy5⟩) (by assumption) ?_
          case hy5 => intro w hSw; obtain rfl := hSw; go_simp; try with_reducible rfl
          simp only [Act.put, List.getElem_toArray, List.getElem_cons_zero, List.getElem_cons_succ, List.setIfInBounds_toArray, List.set_cons_zero, List.set_cons_succ]
          refine wpAnyN_one (i := 5) (by kernel_rfl) rfl (fun K hK => ?_)
          simp only [List.getElem_toArray, List.getElem_cons_zero, List.getElem_cons_succ]
          go_simp
          refine (protected_any _ H2.out hnc).mono ?_
          rintro e w9 ⟨rfl, rfl⟩
          refine hK _ _ (fun _ => hS0) ?_
          (try simp only [Act.put, List.setIfInBounds_toArray, List.set_cons_zero, List.set_cons_succ])
          refine wpAnyN_take (i := 6) (v := ?v6) rfl (by kernel_rfl) (by kernel_rfl) (by kernel_rfl) (by kernel_rfl) (fun _ _ _ h => h) (Or.inl ⟨by rfl, ?hy6⟩) (by assumption) ?_
          case hy6 => intro w hSw; obtain rfl := hSw; go_simp; try with_reducible rfl
          simp only [Act.put, List.getElem_toArray, List.getElem_cons_zero, List.getElem_cons_succ, List.setIfInBounds_toArray, List.set_cons_zero, List.set_cons_succ]
          refine wpAnyN_take (i := 7) (v := ?v7) rfl (by kernel_rfl) (by kernel_rfl) (by kernel_rfl) (by kernel_rfl) (fun _ _ _ h => h) (Or.inl ⟨by rfl, ?hy7⟩) (by assumption) ?_
          case hy7 => intro w hSw; obtain rfl := hSw; go_simp; try with_reducible rfl
          simp only [Act.put, List.getElem_toArray, List.getElem_cons_zero, List.getElem_cons_succ, List.setIfInBounds_toArray, List.set_cons_zero, List.set_cons_succ]
          refine wpAnyN_done (by kernel_rfl) ?_ _
          have he : (Value.slice Ay m cy).ownBlock = (Value.slice Ay x.y.length cy).ownBlock := by cases Ay <;> rfl
          have hyc := own_cut HY2.out hml
          rw [cCs_take] at hyc
          have hset := H2.out.setEn (y := x.y.take m) hx hyv he (by rw [List.length_take, Nat.min_eq_left hml]; exact hyc)
          have HSET := Lib.hid hset.1
          have HE := Lib.hid he
          have fg := H2.out.envs.frozenAt (n * 4 + 3)
          have gl := (H2.out.envs.lt g rfl).2
          clear hset he hyc
          go_wp2_with fail
          refine (cut_cell (A := Ay) (n := x.y.length) (c := cy) (k := (m : Int)) (m := m) _ HCY.out hxl (by omega)).mono ?_
          rintro e w8 ⟨rfl, rfl⟩
          go_wp2_with fail
          go_ret
          exact ⟨rfl, ⟨_, _, _, _, HSET.out, fun g' hg' => .inl (by rw [foot_set hyv HE.out] at hg'; exact hg')⟩, (Kept.below HB2.out).trans (Kept.upd ((Upd.refl g _).set _ _) envs_mem)⟩
        · rw [if_neg hpr]
          have H := Lib.hid h
          have HCUR := Lib.hid (current_at w h hn hn1 hlt)
          clear h hn1
          go_enter Try.func28, Try.ntmps28
          go_wp2_with fail
          refine HCUR.out.mono ?_
          rintro e w1 ⟨rfl, hb1⟩
          have H1 := Lib.hid (H.out.next hb1)
          obtain ⟨g', cap1, v1, e1, hcap1, hyv1, hyr1, k0, k1, k2, k3⟩ := H1.out.enAt hx
          injection e1 with e1 _ ecap
          injection e1 with e1
          injection e1 with e1 _ _
          subst e1 ecap
          obtain rfl : v1 = v := by rw [hyv] at hyv1; injection hyv1 with e; exact e.symm
          have HB1 := Lib.hid hb1
          have HYR := Lib.hid hyr1
          obtain ⟨Ay, cy, rfl, hcy⟩ := own_form hyr1
          have HCY := Lib.hid hcy
          clear hb1 HCUR hyv1 H hyr hcy hyr1 k0 k1 k2
          go_upto_region 8 with fail
          obtain ⟨X0, HX⟩ : ∃ X, Hid (X = w1.drew) := ⟨_, rfl⟩
          have hd0 : Below w1.heap.size w1 X0 := by rw [HX.out]; exact bDrew w1
          have H2 := Lib.hid (H1.out.next hd0)
          have HB2 := Lib.hid (bNext HB1.out hd0)
          have HY2 := Lib.hid (own_stay (w' := X0) HYR.out fun k hk => hd0.block k (HYR.out.lt k hk).2)
          have k3x : X0.cell? ⟨g, n * 4 + 3, none⟩ = some (.slice Ay x.y.length cy) := by rw [HX.out]; exact k3
          obtain ⟨c0, c1, c2⟩ := H2.out.cells
          have hl := H2.out.box.lt
          refine wp_region_N (fun w' => w' = X0) (fun _ => true) (by kernel_rfl) ?_
          rw [← HX.out]
          clear HX hd0 k3 H1 HB1 HYR
          have hS0 : (fun w' => w' = X0) X0 := rfl
          refine wpAnyN_take (i := 0) (v := ?v41) rfl (by kernel_rfl) (by kernel_rfl) (by kernel_rfl) (by kernel_rfl) (fun _ _ _ h => h) (Or.inl ⟨by rfl, ?hy41⟩) (by assumption) ?_
          case hy41 => intro w hSw; obtain rfl := hSw; go_simp; try with_reducible rfl
          simp only [Act.put, List.getElem_toArray, List.getElem_cons_zero, List.setIfInBounds_toArray, List.set_cons_zero, List.set_cons_succ]
          refine wpAnyN_take (i := 1) (v := ?v42) rfl (by kernel_rfl) (by kernel_rfl) (by kernel_rfl) (by kernel_rfl) (fun _ _ _ h => h) (Or.inl ⟨by rfl, ?hy42⟩) (by assumption) ?_
          case hy42 => intro w hSw; obtain rfl := hSw; go_simp; try with_reducible rfl
          simp only [Act.put, List.getElem_toArray, List.getElem_cons_zero, List.getElem_cons_succ, List.setIfInBounds_toArray, List.set_cons_zero, List.set_cons_succ]
          refine wpAnyN_take (i := 2) (v := ?v43) rfl (by kernel_rfl) (by kernel_rfl) (by kernel_rfl) (by kernel_rfl) (fun _ _ _ h => h) (Or.inl ⟨by rfl, ?hy43⟩) (by assumption) ?_
          case hy43 => intro w hSw; obtain rfl := hSw; go_simp; try with_reducible rfl
          simp only [Act.put, List.getElem_toArray, List.getElem_cons_zero, List.getElem_cons_succ, List.setIfInBounds_toArray, List.set_cons_zero, List.set_cons_succ]
          refine wpAnyN_take (i := 3) (v := ?v44) rfl (by kernel_rfl) (by kernel_rfl) (by kernel_rfl) (by kernel_rfl) (fun _ _ _ h => h) (Or.inl ⟨by rfl, ?hy44⟩) (by assumption) ?_
          case hy44 => intro w hSw; obtain rfl := hSw; go_simp; try with_reducible rfl
          simp only [Act.put, List.getElem_toArray, List.getElem_cons_zero, List.getElem_cons_succ, List.setIfInBounds_toArray, List.set_cons_zero, List.set_cons_succ]
          refine wpAnyN_take (i := 4) (v := ?v45) rfl (by kernel_rfl) (by kernel_rfl) (by kernel_rfl) (by kernel_rfl) (fun _ _ _ h => h) (Or.inl ⟨by rfl, ?hy45⟩) (by assumption) ?_
          case hy45 => intro w hSw; obtain rfl := hSw; go_simp; try with_reducible rfl
          simp only [Act.put, List.getElem_toArray, List.getElem_cons_zero, List.getElem_cons_succ, List.setIfInBounds_toArray, List.set_cons_zero, List.set_cons_succ]
          refine wpAnyN_one (i := 5) (by kernel_rfl) rfl (fun K hK => ?_)
          simp only [List.getElem_toArray, List.getElem_cons_zero, List.getElem_cons_succ]
          go_simp
          refine (protected_any _ H2.out hnc).mono ?_
          rintro e w9 ⟨rfl, rfl⟩
          refine hK _ _ (fun _ => hS0) ?_
          (try simp only [Act.put, List.setIfInBounds_toArray, List.set_cons_zero, List.set_cons_succ])
          refine wpAnyN_take (i := 6) (v := ?v46) rfl (by kernel_rfl) (by kernel_rfl) (by kernel_rfl) (by kernel_rfl) (fun _ _ _ h => h) (Or.inl ⟨by rfl, ?hy46⟩) (by assumption) ?_
          case hy46 => intro w hSw; obtain rfl := hSw; go_simp; try with_reducible rfl
          simp only [Act.put, List.getElem_toArray, List.getElem_cons_zero, List.getElem_cons_succ, List.setIfInBounds_toArray, List.set_cons_zero, List.set_cons_succ]
          refine wpAnyN_take (i := 7) (v := ?v47) rfl (by kernel_rfl) (by kernel_rfl) (by kernel_rfl) (by kernel_rfl) (fun _ _ _ h => h) (Or.inl ⟨by rfl, ?hy47⟩) (by assumption) ?_
          case hy47 => intro w hSw; obtain rfl := hSw; go_simp; try with_reducible rfl
          simp only [Act.put, List.getElem_toArray, List.getElem_cons_zero, List.getElem_cons_succ, List.setIfInBounds_toArray, List.set_cons_zero, List.set_cons_succ]
          refine wpAnyN_done (by kernel_rfl) ?_ _
          go_wp2_with fail
          go_ret
          exact ⟨rfl, ⟨_, _, _, _, H2.out, fun g hg => .inl hg⟩, Kept.below HB2.out⟩
  · have hv : trimV s t = .error 5 := by unfold trimV curN; rw [if_neg hc]
    rw [hv]
    have HCUR := Lib.hid (current_no w h (by omega))
    have H := Lib.hid h
    clear h
    go_enter Try.func28, Try.ntmps28
    go_wp2_with fail
    refine HCUR.out.mono ?_
    rintro e w1 ⟨rfl, hb1⟩
    have H1 := Lib.hid (H.out.next hb1)
    have HB1 := Lib.hid hb1
    clear hb1
    go_wp2_with fail
    go_ret
    exact ⟨rfl, ⟨_, _, _, _, H1.out, fun g hg => .inl hg⟩, Kept.below HB1.out⟩
end Go.Proofs.Ytpkpffnabcgcbaa
