/-
  The walk of Get.
-/
import Derived.Test.YtpkpffnabcgcbaaFg
namespace Go.Proofs.Ytpkpffnabcgcbaa
open Go.RowKit

/-- the same rows behind another box -/
theorem Stk.rebox {w w' : World} {B p q : Nat} {s : St} {ve vc : Value} {ys : List Value} {cs : List (Value × Value)} (h : Stk w B p s ve vc ys cs) (hb : Below w.heap.size w w') (hk : Blk w' q 25 #[ve, .int .i64 s.e, vc]) (hq : B ≤ q) : Stk w' B q s ve vc ys cs := by
  have h' := h.next hb
  exact ⟨hk, hq, h'.envs, h'.chs, h'.ylen, h'.clen, h'.yrow, h'.crow, h'.nodup⟩
def getV (s : St) (y : Int) : Except Int Cl := match curN s with
  | some n => match s.envs[n]? with
    | some x => if y < 1 ∨ (x.y.length : Int) < y then .error 1 else match x.y[(y - 1).toNat]? with
      | some c => .ok c
      | none => .error 1
    | none => .error 5
  | none => .error 5
@[reducible] def Cl.v (c : Cl) : Value := .agg #[.int .i64 c.tag, .int .i64 c.n]
def getT : Except Int Cl → Value
  | .ok c => .tuple #[c.v, .int .i64 0]
  | .error e => .tuple #[.agg #[.int .i64 0, .int .i64 0], .int .i64 e]
set_option maxHeartbeats 2000000 in
theorem get_any {B p : Nat} {s : St} {ve vc : Value} {ys : List Value} {cs : List (Value × Value)} (y : Int) (w : World) (h : Stk w B p s ve vc ys cs) (hn : s.envs.length ≤ 1000000000000) (hny : ∀ x ∈ s.envs, x.y.length ≤ 1000000000000) :
    Calls Try.prog 32 #[.agg #[ve, .int .i64 s.e, vc], .int .i64 y] w fun e w' => e = .returned (getT (getV s y)) ∧ Below w.heap.size w w' := by
  have hBw : B ≤ w.heap.size := Nat.le_of_lt (Nat.lt_of_le_of_lt h.low h.box.lt)
  obtain ⟨W, HW⟩ : ∃ W, Hid (W = (w.alloc (.cells #[ve, .int .i64 s.e, vc] 25)).alloc (.cells #[.int .i64 0, .int .i64 0] 38)) := ⟨_, rfl⟩
  have hbW : Below w.heap.size w W := by rw [HW.out]; exact (bAlloc w _).alloc (by simp) _
  have hk0 : Blk W w.heap.size 25 #[ve, .int .i64 s.e, vc] := by rw [HW.out]; exact (Blk.new w _ _).alloc _
  have hk1 : Blk W (w.heap.size + 1) 38 #[.int .i64 0, .int .i64 0] := by
    have h := Blk.new (w.alloc (.cells #[ve, .int .i64 s.e, vc] 25)) 38 #[.int .i64 0, .int .i64 0]
    rw [World.size_alloc] at h
    rw [HW.out]; exact h
  have hs := h.rebox hbW hk0 hBw
  have HB := Lib.hid hbW
  have HK1 := Lib.hid hk1
  obtain ⟨A, c, rfl, hcap⟩ := own_form h.envs
  obtain ⟨A', c', rfl, hcap'⟩ := own_form h.chs
  by_cases hc : 1 ≤ s.e ∧ s.e ≤ s.envs.length
  · obtain ⟨n, hn1⟩ : ∃ n : Nat, s.e = (n : Int) + 1 := ⟨(s.e - 1).toNat, by omega⟩
    have hlt : n < s.envs.length := by omega
    obtain ⟨x, hx⟩ : ∃ x, s.envs[n]? = some x := ⟨_, List.getElem?_eq_getElem hlt⟩
    have hxl := hny x (List.mem_of_getElem? hx)
    obtain ⟨g, cap, v, e1, hcap, hyv, hyr, -, -, -, -⟩ := hs.enAt hx
    injection e1 with e1 _ e2
    subst e1 e2
    have HCUR := Lib.hid (current_at W hs hn hn1 hlt)
    have H := Lib.hid hs
    have hgv : getV s y = if y < 1 ∨ (x.y.length : Int) < y then .error 1 else match x.y[(y - 1).toNat]? with
      | some c => .ok c
      | none => .error 1 := by
      unfold getV curN
      rw [if_pos hc, show (s.e - 1).toNat = n by omega]
      simp only [hx]
    have HGV := Lib.hid hgv
    clear h hs hbW hk0 hk1 hgv hyr hn1
    by_cases hy : y < 1
    · rw [HGV.out, if_pos (.inl hy)]
      go_enter Try.func32, Try.ntmps32
      go_upto_region 1 with fail
      rw [← HW.out]
      clear HW
      go_wp2_with fail
      refine HCUR.out.mono ?_
      rintro e w1 ⟨rfl, hb1⟩
      have H1 := Lib.hid (H.out.next hb1)
      obtain ⟨g', cap1, v1, e1, hcap1, hyv1, hyr1, k0, k1, k2, k3⟩ := H1.out.enAt hx
      injection e1 with e1 _ _
      injection e1 with e1
      injection e1 with e1 _ _
      subst e1
      obtain rfl : v1 = v := by rw [hyv] at hyv1; injection hyv1 with e; exact e.symm
      have HB1 := Lib.hid (bNext HB.out hb1)
      have hk1 := HK1.out.next hb1
      have r0 := hk1.cell 0
      have r1 := hk1.cell 1
      have t0 := hk1.frozen 0
      have t1 := hk1.frozen 1
      have tl := hk1.lt
      simp at r0 r1
      obtain ⟨Ay, cy, rfl, hcy⟩ := own_form hyr1
      clear hb1 HCUR hyv hyv1 H HB HK1
      go_wp2_with fail
      refine bodyPost_ret (v := .tuple #[.agg #[.int .i64 0, .int .i64 0], .int .i64 1]) (by simp only [results, Try.results32]; go_simp) rfl ⟨rfl, ?_⟩
      exact (HB1.out.setCell (by simp) _).setCell (by simp) _
    · by_cases hy2 : (x.y.length : Int) < y
      · rw [HGV.out, if_pos (.inr hy2)]
        go_enter Try.func32, Try.ntmps32
        go_upto_region 1 with fail
        rw [← HW.out]
        clear HW
        go_wp2_with fail
        refine HCUR.out.mono ?_
        rintro e w1 ⟨rfl, hb1⟩
        have H1 := Lib.hid (H.out.next hb1)
        obtain ⟨g', cap1, v1, e1, hcap1, hyv1, hyr1, k0, k1, k2, k3⟩ := H1.out.enAt hx
        injection e1 with e1 _ _
        injection e1 with e1
        injection e1 with e1 _ _
        subst e1
        obtain rfl : v1 = v := by rw [hyv] at hyv1; injection hyv1 with e; exact e.symm
        have HB1 := Lib.hid (bNext HB.out hb1)
        have hk1 := HK1.out.next hb1
        have r0 := hk1.cell 0
        have r1 := hk1.cell 1
        have t0 := hk1.frozen 0
        have t1 := hk1.frozen 1
        have tl := hk1.lt
        simp at r0 r1
        obtain ⟨Ay, cy, rfl, hcy⟩ := own_form hyr1
        clear hb1 HCUR hyv hyv1 H HB HK1
        go_wp2_with fail
        refine bodyPost_ret (v := .tuple #[.agg #[.int .i64 0, .int .i64 0], .int .i64 1]) (by simp only [results, Try.results32]; go_simp) rfl ⟨rfl, ?_⟩
        exact (HB1.out.setCell (by simp) _).setCell (by simp) _
      · obtain ⟨m, rfl⟩ : ∃ m : Nat, y = (m : Int) + 1 := ⟨(y - 1).toNat, by omega⟩
        obtain ⟨cl, hcl⟩ : ∃ cl, x.y[m]? = some cl := ⟨_, List.getElem?_eq_getElem (by omega)⟩
        rw [HGV.out, if_neg (by omega), show ((m : Int) + 1 - 1).toNat = m by omega, hcl]
        have hml : m < x.y.length := by omega
        have hm1 : (m : Int) + 1 - 1 = (m : Int) := by omega
        go_enter Try.func32, Try.ntmps32
        go_upto_region 1 with fail
        rw [← HW.out]
        clear HW
        go_wp2_with fail
        refine HCUR.out.mono ?_
        rintro e w1 ⟨rfl, hb1⟩
        have H1 := Lib.hid (H.out.next hb1)
        obtain ⟨g', cap1, v1, e1, hcap1, hyv1, hyr1, k0, k1, k2, k3⟩ := H1.out.enAt hx
        injection e1 with e1 _ _
        injection e1 with e1
        injection e1 with e1 _ _
        subst e1
        obtain rfl : v1 = v := by rw [hyv] at hyv1; injection hyv1 with e; exact e.symm
        have HB1 := Lib.hid (bNext HB.out hb1)
        have hk1 := HK1.out.next hb1
        have r0 := hk1.cell 0
        have r1 := hk1.cell 1
        have t0 := hk1.frozen 0
        have t1 := hk1.frozen 1
        have tl := hk1.lt
        simp at r0 r1
        obtain ⟨gy, cy, rfl⟩ := own_head hyr1 (by omega)
        obtain ⟨_, _, ey, hcy⟩ := own_form hyr1
        injection ey with ey0 _ ey
        subst ey0 ey
        have hcy := hcy.1
        obtain ⟨u0, u1⟩ := cCs_at hcl
        have v0 := own_cell hyr1 u0
        have v1 := own_cell hyr1 u1
        clear u0 u1
        clear hb1 HCUR hyv hyv1 H HB HK1
        go_wp2_with fail
        refine bodyPost_ret (v := .tuple #[cl.v, .int .i64 0]) (by simp only [results, Try.results32]; go_simp) rfl ⟨rfl, ?_⟩
        exact (HB1.out.setCell (by simp) _).setCell (by simp) _
  · have hv : getV s y = .error 5 := by unfold getV curN; rw [if_neg hc]
    rw [hv]
    have HCUR := Lib.hid (current_no W hs (by omega))
    clear h hs hbW hk0 hk1 hv
    go_enter Try.func32, Try.ntmps32
    go_upto_region 1 with fail
    rw [← HW.out]
    clear HW
    go_wp2_with fail
    refine HCUR.out.mono ?_
    rintro e w1 ⟨rfl, hb1⟩
    have HB1 := Lib.hid (bNext HB.out hb1)
    have hk1 := HK1.out.next hb1
    have r0 := hk1.cell 0
    have r1 := hk1.cell 1
    have t0 := hk1.frozen 0
    have t1 := hk1.frozen 1
    have tl := hk1.lt
    simp at r0 r1
    clear hb1 HCUR HB HK1
    go_wp2_with fail
    refine bodyPost_ret (v := .tuple #[.agg #[.int .i64 0, .int .i64 0], .int .i64 5]) (by simp only [results, Try.results32]; go_simp) rfl ⟨rfl, ?_⟩
    exact (HB1.out.setCell (by simp) _).setCell (by simp) _
end Go.Proofs.Ytpkpffnabcgcbaa
