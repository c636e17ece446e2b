/-
  The walk of the program's Valid.
-/
import Derived.Test.YtpkpffnabcgcbaaFv
namespace Go.Proofs.Ytpkpffnabcgcbaa
open Go.RowKit

set_option maxHeartbeats 4000000 in
theorem validP_any {A A' : Option Addr} {c c' : Nat} {s : St} (w : World) (h : StAt w A c A' c' s) (hn : s.envs.length ≤ 10000000000000) (hnc : s.chs.length ≤ 10000000000000) (hny : ∀ x ∈ s.envs, x.y.length ≤ 10000000000000) :
    Calls Try.prog 25 #[stV s A c A' c'] w fun e w' => VRet s e ∧ Below w.heap.size w w' := by
  obtain ⟨W, HW⟩ : ∃ X, Hid (X = w.alloc (.cells #[.slice A s.envs.length c, .int .i64 s.e, .slice A' s.chs.length c'] 25)) := ⟨_, rfl⟩
  have hbW : Below w.heap.size w W := by rw [HW.out]; exact bAlloc _ _
  obtain ⟨q, hq⟩ : ∃ q, Hid (q = w.heap.size) := ⟨_, rfl⟩
  have hk0 : Blk W q 25 #[.slice A s.envs.length c, .int .i64 s.e, .slice A' s.chs.length c'] := by rw [HW.out, hq.out]; exact Blk.new w _ _
  have HS := Lib.hid (h.next hbW)
  have HB := Lib.hid hbW
  have HK := Lib.hid hk0
  have hc0 := hk0.cell 0
  have hc1 := hk0.cell 1
  have hc2 := hk0.cell 2
  have hl := hk0.lt
  simp at hc0 hc1 hc2
  clear h hbW hk0
  by_cases hbig : 1048576 < (s.envs.length : Int)
  · go_enter Try.func25, Try.ntmps25
    go_upto_region 1 with fail
    rw [← HW.out, ← hq.out]
    clear HW
    go_wp2_with fail
    go_ret
    exact ⟨VRet.no (fun g => by have := g.envs; omega), HB.out⟩
  by_cases hbig2 : 1048576 < (s.chs.length : Int)
  · go_enter Try.func25, Try.ntmps25
    go_upto_region 1 with fail
    rw [← HW.out, ← hq.out]
    clear HW
    go_wp2_with fail
    go_ret
    exact ⟨VRet.no (fun g => by have := g.chs; omega), HB.out⟩
  by_cases hbig3 : s.e < 0
  · go_enter Try.func25, Try.ntmps25
    go_upto_region 1 with fail
    rw [← HW.out, ← hq.out]
    clear HW
    go_wp2_with fail
    go_ret
    exact ⟨VRet.no (fun g => by have := g.e; omega), HB.out⟩
  go_enter Try.func25, Try.ntmps25
  go_upto_region 1 with fail
  rw [← HW.out, ← hq.out]
  clear HW
  go_wp2_with fail
  go_loopw [26] (fun i wr => ∃ k : Nat, k ≤ s.envs.length ∧ i = .int .i64 (k : Int) ∧ Hid (Below W.heap.size W wr) ∧ Hid (∀ j x, j < k → s.envs[j]? = some x → enOk j x)) (fun i _ => s.envs.length - (intOf i).toNat)
  case atStart => exact ⟨0, by omega, rfl, Lib.hid (Below.refl _ _), Lib.hid fun j x hj => absurd hj (Nat.not_lt_zero _)⟩
  case round =>
    obtain ⟨k, hk, rfl, HI, HOK⟩ := hrel
    clear hc0 hc1 hc2 hl
    by_cases hlt : k < s.envs.length
    · obtain ⟨x, hx⟩ : ∃ x, s.envs[k]? = some x := ⟨_, List.getElem?_eq_getElem hlt⟩
      have hxy := hny x (List.mem_of_getElem? hx)
      obtain ⟨b, off, rfl, hb, hat⟩ := (HS.out.next HI.out).envs (by omega)
      obtain ⟨Ay, cy, x0, x1, x2, x3, hcy, -⟩ := hat k x hx
      have HX := Lib.hid hx
      have HCY := Lib.hid hcy
      clear hat hx hcy
      go_upto_region 6 with fail
      obtain ⟨W2, HW2⟩ : ∃ X, Hid (X = wr.alloc (.cells #[.int .i64 x.prev, .int .i64 x.id, .int .i64 x.pc, .slice Ay x.y.length cy] 54)) := ⟨_, rfl⟩
      have hb2 : Below wr.heap.size wr W2 := by rw [HW2.out]; exact bAlloc _ _
      obtain ⟨q2, hq2⟩ : ∃ q, Hid (q = wr.heap.size) := ⟨_, rfl⟩
      have hk2 : Blk W2 q2 54 #[.int .i64 x.prev, .int .i64 x.id, .int .i64 x.pc, .slice Ay x.y.length cy] := by rw [HW2.out, hq2.out]; exact Blk.new _ _ _
      rw [← HW2.out, ← hq2.out]
      have HB2 := Lib.hid (bNext HI.out hb2)
      have y0 := hk2.cell 0
      have y1 := hk2.cell 1
      have y2 := hk2.cell 2
      have y3 := hk2.cell 3
      have yl := hk2.lt
      simp at y0 y1 y2 y3
      clear hk2 hb2 HW2 hq2 x0 x1 x2 x3 HI
      by_cases hok : enOk k x
      · have HO := Lib.hid hok
        obtain ⟨o0, o1, o2, o3⟩ := hok
        have o0' : ¬ x.prev < 0 := by omega
        have o1' : ¬ (k : Int) < x.prev := by omega
        have o2' : ¬ x.pc < 0 := by omega
        have o3' : ¬ (4096 : Int) < (x.y.length : Int) := by omega
        clear o0 o1 o2 o3
        go_wp2_with fail
        refine ⟨⟨k + 1, by omega, by go_num, Lib.hid HB2.out, Lib.hid fun j z hj hz => ?_⟩, by simp [intOf]; omega⟩
        by_cases hjk : j = k
        · subst hjk
          rw [HX.out] at hz
          injection hz with hz
          exact hz ▸ HO.out
        · exact HOK.out j z (by omega) hz
      · have HO := Lib.hid hok
        have hno : Hid (¬ Good s) := Lib.hid fun g => HO.out (g.en k x HX.out)
        by_cases p0 : x.prev < 0
        · go_wp2_with fail
          go_ret
          exact ⟨VRet.no hno.out, bNext HB.out HB2.out⟩
        by_cases p1 : (k : Int) < x.prev
        · go_wp2_with fail
          go_ret
          exact ⟨VRet.no hno.out, bNext HB.out HB2.out⟩
        by_cases p2 : x.pc < 0
        · go_wp2_with fail
          go_ret
          exact ⟨VRet.no hno.out, bNext HB.out HB2.out⟩
        have p3 : (4096 : Int) < (x.y.length : Int) := by
          unfold enOk at hok
          omega
        clear hok
        go_wp2_with fail
        go_ret
        exact ⟨VRet.no hno.out, bNext HB.out HB2.out⟩
    · have HALL : Hid (∀ j x, s.envs[j]? = some x → enOk j x) := Lib.hid fun j x hx => HOK.out j x (by have := (List.getElem?_eq_some_iff.1 hx).1; omega) hx
      clear HOK
      have hkr := HK.out.next HI.out
      have i0 := hkr.cell 0
      have i2 := hkr.cell 2
      have i1 := hkr.cell 1
      have il := hkr.lt
      simp at i0 i1 i2
      clear hkr
      go_wp2_with fail
      go_loopw [5, 55] (fun hi i w2 => ∃ k : Nat, k ≤ s.chs.length ∧ hi = .int .i64 (highAt s.chs k) ∧ i = .int .i64 (k : Int) ∧ Hid (Below W.heap.size W w2) ∧ Hid (∀ j x, j < k → s.chs[j]? = some x → 0 ≤ x.env ∧ x.envs = max x.env (highAt s.chs j))) (fun _ i _ => s.chs.length - (intOf i).toNat)
      case atStart => exact ⟨0, by omega, rfl, rfl, Lib.hid HI.out, Lib.hid fun j x hj => absurd hj (Nat.not_lt_zero _)⟩
      case round =>
        clear i0 i1 i2 il HI
        obtain ⟨k2, hk2, rfl, rfl, HJ, HCOK⟩ := hrel
        by_cases hlt2 : k2 < s.chs.length
        · obtain ⟨x, hx⟩ : ∃ x, s.chs[k2]? = some x := ⟨_, List.getElem?_eq_getElem hlt2⟩
          obtain ⟨b2, off2, rfl, hb2', hat2⟩ := (HS.out.next HJ.out).chs (by omega)
          obtain ⟨Aa, ca, Ab, cb, x0, x1, x2, x3, x4, x5, x6, x7, x8, x9, x10, hca, hcb, -⟩ := hat2 k2 x hx
          have HX := Lib.hid hx
          have HCA := Lib.hid hca
          have HCB := Lib.hid hcb
          clear hat2 hx hca hcb
          go_upto_region 13 with fail
          obtain ⟨W3, HW3⟩ : ∃ X, Hid (X = wr.alloc (.cells #[.int .i64 x.kind, .slice Aa x.args.length ca, .int .i64 x.env, .int .i64 x.id, .int .i64 x.pc, .int .i64 x.cut, .int .i64 x.mark, .int .i64 x.top, .int .i64 x.envs, .slice Ab x.alts.length cb, .int .i64 x.data] 29)) := ⟨_, rfl⟩
          have hb3 : Below wr.heap.size wr W3 := by rw [HW3.out]; exact bAlloc _ _
          obtain ⟨q3, hq3⟩ : ∃ q, Hid (q = wr.heap.size) := ⟨_, rfl⟩
          have hk3 : Blk W3 q3 29 #[.int .i64 x.kind, .slice Aa x.args.length ca, .int .i64 x.env, .int .i64 x.id, .int .i64 x.pc, .int .i64 x.cut, .int .i64 x.mark, .int .i64 x.top, .int .i64 x.envs, .slice Ab x.alts.length cb, .int .i64 x.data] := by rw [HW3.out, hq3.out]; exact Blk.new _ _ _
          rw [← HW3.out, ← hq3.out]
          have y2 := hk3.cell 2
          have y8 := hk3.cell 8
          have yl := hk3.lt
          simp at y2 y8
          have HB3 := Lib.hid (bNext HJ.out hb3)
          obtain ⟨hh, HH⟩ : ∃ hh, Hid (hh = highAt s.chs k2) := ⟨_, rfl⟩
          rw [← HH.out]
          clear hk3 hb3 HW3 hq3 x0 x1 x2 x3 x4 x5 x6 x7 x8 x9 x10 HJ
          by_cases p0 : x.env < 0
          · have hno : Hid (¬ Good s) := Lib.hid fun g => by have := (g.ch k2 x HX.out).1; omega
            go_wp2_with fail
            go_ret
            exact ⟨VRet.no hno.out, bNext HB.out HB3.out⟩
          have hmx : (if x.env < hh then hh else x.env) = max x.env hh := by split <;> omega
          obtain ⟨mx, HM⟩ : ∃ mx, Hid (mx = max x.env hh) := ⟨_, rfl⟩
          rw [← HM.out] at hmx
          by_cases p1 : x.envs = mx
          · have p1b : (x.envs != mx) = false := by rw [p1]; simp
            have P1 := Lib.hid p1
            clear p1
            go_wp2_with fail
            refine ⟨⟨k2 + 1, by omega, ?_, by go_num, Lib.hid HB3.out, Lib.hid fun j z hj hz => ?_⟩, by simp [intOf]; omega⟩
            · have e9 : highAt s.chs (k2 + 1) = x.envs := by show (match s.chs[k2]? with | some c => c.envs | none => 0) = _; rw [HX.out]
              rw [e9]
            · by_cases hjk : j = k2
              · subst hjk
                rw [HX.out] at hz
                injection hz with hz
                subst hz
                exact ⟨by omega, by rw [P1.out, HM.out, HH.out]⟩
              · exact HCOK.out j z (by omega) hz
          · have p1b : (x.envs != mx) = true := by simpa using p1
            have hno : Hid (¬ Good s) := Lib.hid fun g => p1 (by rw [HM.out, HH.out]; exact (g.ch k2 x HX.out).2)
            clear p1
            go_wp2_with fail
            go_ret
            exact ⟨VRet.no hno.out, bNext HB.out HB3.out⟩
        · have hch : Hid (∀ j x, s.chs[j]? = some x → 0 ≤ x.env ∧ x.envs = max x.env (highAt s.chs j)) := Lib.hid fun j x hx => HCOK.out j x (by have := (List.getElem?_eq_some_iff.1 hx).1; omega) hx
          obtain rfl : k2 = s.chs.length := by omega
          clear HCOK
          have hkr := HK.out.next HJ.out
          have i0 := hkr.cell 0
          have i1 := hkr.cell 1
          have il := hkr.lt
          simp at i0 i1
          clear hkr
          obtain ⟨hh, HH⟩ : ∃ hh, Hid (hh = highAt s.chs s.chs.length) := ⟨_, rfl⟩
          rw [← HH.out]
          have hmx : (if s.e < hh then hh else s.e) = max s.e hh := by split <;> omega
          go_wp2_with fail
          go_ret
          refine ⟨VRet.of ?_, bNext HB.out HJ.out⟩
          constructor
          · intro h
            refine ⟨by omega, by omega, HALL.out, hch.out, by omega, ?_⟩
            rw [← HH.out]
            simpa using h
          · intro g
            have h := g.len
            rw [← HH.out] at h
            simpa using h
end Go.Proofs.Ytpkpffnabcgcbaa
