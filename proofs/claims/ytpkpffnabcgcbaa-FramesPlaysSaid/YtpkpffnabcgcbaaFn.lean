/-
  The walk of is (a permanent variable has a value).
-/
import Derived.Test.YtpkpffnabcgcbaaFh
namespace Go.Proofs.Ytpkpffnabcgcbaa
open Go.RowKit

def isV (s : St) (y : Int) (c : Cl) : Bool := match getV s y with
  | .ok d => c.tag == d.tag && c.n == d.n
  | .error _ => false
theorem getV_err {s : St} {y e : Int} (h : getV s y = .error e) : e = 1 ∨ e = 5 := by
  unfold getV at h
  split at h
  · split at h
    · split at h
      · cases h; exact .inl rfl
      · split at h
        · cases h
        · cases h; exact .inl rfl
    · cases h; exact .inr rfl
  · cases h; exact .inr rfl
theorem c_eql (a b a' b' : Int) (w : World) : (binOp .eql 38 (.agg #[.int .i64 a, .int .i64 b]) (.agg #[.int .i64 a', .int .i64 b'])).run Try.prog w = .ok (.bool (a == a' && b == b')) w := by
  go_simp
  by_cases h : a = a' <;> by_cases k : b = b' <;> simp [h, k]
set_option maxHeartbeats 2000000 in
theorem is_any {B p : Nat} {s : St} {ve vc : Value} {ys : List Value} {cs : List (Value × Value)} (y : Int) (c : Cl) (w : World) (h : Stk w B p s ve vc ys cs) (hn : s.envs.length ≤ 1000000000000) (hny : ∀ x ∈ s.envs, x.y.length ≤ 1000000000000) :
    Calls Try.prog 30 #[.agg #[ve, .int .i64 s.e, vc], .int .i64 y, .agg #[.int .i64 c.tag, .int .i64 c.n]] w fun e w' => e = .returned (.bool (isV s y c)) ∧ Below w.heap.size w w' := by
  obtain ⟨A, c0, rfl, -⟩ := own_form h.envs
  obtain ⟨A', c1, rfl, -⟩ := own_form h.chs
  obtain ⟨W, HW⟩ : ∃ X, Hid (X = (w.alloc (.cells #[.slice A s.envs.length c0, .int .i64 s.e, .slice A' s.chs.length c1] 25)).alloc (.cells #[.int .i64 c.tag, .int .i64 c.n] 38)) := ⟨_, rfl⟩
  have hbW : Below w.heap.size w W := by rw [HW.out]; exact (bAlloc w _).alloc (by simp) _
  have hk0 : Blk W w.heap.size 25 #[.slice A s.envs.length c0, .int .i64 s.e, .slice A' s.chs.length c1] := by rw [HW.out]; exact (Blk.new w _ _).alloc _
  have hk1 : Blk W (w.heap.size + 1) 38 #[.int .i64 c.tag, .int .i64 c.n] := by
    have h := Blk.new (w.alloc (.cells #[.slice A s.envs.length c0, .int .i64 s.e, .slice A' s.chs.length c1] 25)) 38 #[.int .i64 c.tag, .int .i64 c.n]
    rw [World.size_alloc] at h
    rw [HW.out]; exact h
  have HGET := Lib.hid (get_any y W (h.next hbW) hn hny)
  have HB := Lib.hid hbW
  have HK1 := Lib.hid hk1
  have z0 := hk0.cell 0
  have z1 := hk0.cell 1
  have z2 := hk0.cell 2
  simp at z0 z1 z2
  clear h hbW hk0 hk1
  cases hr : getV s y with
  | error er =>
    have hv : isV s y c = false := by unfold isV; rw [hr]
    rw [hv]
    have HR := Lib.hid hr
    have hne := getV_err hr
    clear hr hv
    rcases hne with rfl | rfl
    · go_enter Try.func30, Try.ntmps30
      go_upto_region 1 with fail
      rw [← HW.out]
      clear HW
      go_wp2_with fail
      refine HGET.out.mono ?_
      rintro e w1 ⟨rfl, hb1⟩
      rw [HR.out]
      have HB1 := Lib.hid (bNext HB.out hb1)
      have hk1 := HK1.out.next hb1
      have y0 := hk1.cell 0
      have y1 := hk1.cell 1
      have y2 := hk1.lt
      simp at y0 y1
      clear z0 z1 z2 hb1 HGET HB HK1
      dsimp only [getT, Cl.v]
      go_wp2_with fail
      go_ret
      exact ⟨rfl, HB1.out.alloc HB1.out.size _⟩
    · go_enter Try.func30, Try.ntmps30
      go_upto_region 1 with fail
      rw [← HW.out]
      clear HW
      go_wp2_with fail
      refine HGET.out.mono ?_
      rintro e w1 ⟨rfl, hb1⟩
      rw [HR.out]
      have HB1 := Lib.hid (bNext HB.out hb1)
      have hk1 := HK1.out.next hb1
      have y0 := hk1.cell 0
      have y1 := hk1.cell 1
      have y2 := hk1.lt
      simp at y0 y1
      clear z0 z1 z2 hb1 HGET HB HK1
      dsimp only [getT, Cl.v]
      go_wp2_with fail
      go_ret
      exact ⟨rfl, HB1.out.alloc HB1.out.size _⟩
  | ok d =>
    have hv : isV s y c = (c.tag == d.tag && c.n == d.n) := by unfold isV; rw [hr]
    rw [hv]
    have HR := Lib.hid hr
    clear hr hv
    go_enter Try.func30, Try.ntmps30
    go_upto_region 1 with fail
    rw [← HW.out]
    clear HW
    go_wp2_with fail
    refine HGET.out.mono ?_
    rintro e w1 ⟨rfl, hb1⟩
    rw [HR.out]
    have HB1 := Lib.hid (bNext HB.out hb1)
    have hk1 := HK1.out.next hb1
    have y0 := hk1.cell 0
    have y1 := hk1.cell 1
    have y2 := hk1.lt
    simp at y0 y1
    clear z0 z1 z2 hb1 HGET HB HK1
    dsimp only [getT, Cl.v]
    have te := c_eql
    go_wp2_with fail
    go_ret
    refine ⟨ret_bool ?_, HB1.out.alloc HB1.out.size _⟩
    first | rfl | simp
end Go.Proofs.Ytpkpffnabcgcbaa
