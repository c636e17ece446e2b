/-
  Walks: registers and small integers of a reader, and predicates. Walks: predicates and keys of a reader. Walk: the key of a reader.
-/
import Derived.Test.YtbipeakinmbdiaaGreatDoorKm
namespace Go.Proofs.YtbipeakinmbdiaaGreatDoor
section
open Go.RowKit

theorem lit_map {p s : List UInt8} {o : Option (Unit × List UInt8)} (h : (litP p s).map (fun r => ((), r)) = o) : litP p s = o.map (·.2) := by
  rw [← h]
  cases litP p s <;> rfl
set_option maxHeartbeats 2000000 in
theorem rdreg_any (s : List UInt8) (bl bx : Nat) (w : World) (h : RdAt w bl bx s) : Calls Tryz.prog 119 #[.pointer (some ⟨bx, 0, none⟩)] w (RdR w bl bx (regP s) fun v => .int .i64 v) := by
  have H := Lib.hid h
  obtain ⟨f0, f1, f2, f3, f4, f5, fl⟩ := h.funs
  clear h
  go_enter Tryz.func119, Tryz.ntmps119
  go_wp2_with fail
  refine (starts_any [89] s bl bx w H.out).mono ?_
  rintro e w1 ⟨rfl, rfl⟩
  cases hp : [89].isPrefixOf s
  · have HE := Lib.hid (show regP s = ((litP [88] s).bind intP).bind fun p => if p.1 < 1 ∨ 4096 < p.1 then none else some (p.1, p.2) by unfold regP; rw [if_neg (by rw [hp]; simp)])
    clear hp
    go_wp2_with fail
    refine (literal_any [88] s bl bx w1 H.out).mono ?_
    intro e w2 hr
    rcases hr.cases with ⟨_, r, ho, rfl, hrd, hkq⟩ | ⟨ho, rfl, hkq⟩
    rotate_left
    · have HN := Lib.hid (show regP s = none by rw [HE.out, lit_map ho]; rfl)
      exact ⟨rfl, RdR.none HN.out rfl hkq⟩
    · have HL := Lib.hid (show litP [88] s = some r from lit_map ho)
      have HRD := Lib.hid hrd
      have HKQ := Lib.hid hkq
      clear hr ho hrd hkq f0 f1 f2 f3 f4 f5 fl
      obtain ⟨f0, f1, f2, f3, f4, f5, fl⟩ := HRD.out.funs
      go_wp2_with fail
      refine (integer_any r bl bx w2 HRD.out).mono ?_
      intro e w3 hr
      rcases hr.cases with ⟨v, r2, ho, rfl, hrd, hkq⟩ | ⟨ho, rfl, hkq⟩
      rotate_left
      · have HN := Lib.hid (show regP s = none by rw [HE.out, HL.out, Option.bind_some, ho]; rfl)
        exact ⟨rfl, RdR.none HN.out rfl (HKQ.out.trans hkq)⟩
      · have HV := Lib.hid (show regP s = if v < 1 ∨ 4096 < v then none else some (1 * v, r2) by rw [HE.out, HL.out, Option.bind_some, ho]; simp)
        have HRD3 := Lib.hid hrd
        have HKQ3 := Lib.hid (HKQ.out.trans hkq)
        clear hr ho hrd hkq f0 f1 f2 f3 f4 f5 fl
        by_cases h1 : v < 1
        · have q1 : decide (v < 1) = true := by simpa using h1
          have HN := Lib.hid (show regP s = none by rw [HV.out, if_pos (.inl h1)])
          clear h1
          go_wp2_with fail
          refine (fail_any w3).mono ?_
          rintro e w4 ⟨rfl, rfl⟩
          exact ⟨rfl, RdR.none HN.out rfl HKQ3.out⟩
        · by_cases h2 : 4096 < v
          · have q1 : decide (v < 1) = false := by simpa using h1
            have q2 : decide (4096 < v) = true := by simpa using h2
            have HN := Lib.hid (show regP s = none by rw [HV.out, if_pos (.inr h2)])
            clear h1 h2
            go_wp2_with fail
            refine (fail_any w3).mono ?_
            rintro e w4 ⟨rfl, rfl⟩
            exact ⟨rfl, RdR.none HN.out rfl HKQ3.out⟩
          · have q1 : decide (v < 1) = false := by simpa using h1
            have q2 : decide (4096 < v) = false := by simpa using h2
            have hw : IntKind.wrap .i64 (1 * v) = 1 * v := wrapI (by omega)
            have hw1 : wrap64 v = v := by unfold wrap64; omega
            have hw2 : wrap64 (-v) = -v := by unfold wrap64; omega
            have hw3 : IntKind.wrap .i64 (-v) = -v := wrapI (by omega)
            have HN := Lib.hid (show regP s = some (1 * v, r2) by rw [HV.out, if_neg (by omega)])
            clear h1 h2
            go_wp2_with fail
            go_ret
            exact RdR.some HN.out (ret_int (by omega)) HRD3.out HKQ3.out
  · have HE := Lib.hid (show regP s = ((litP [89] s).bind intP).bind fun p => if p.1 < 1 ∨ 4096 < p.1 then none else some (-p.1, p.2) by unfold regP; rw [if_pos hp])
    clear hp
    go_wp2_with fail
    refine (literal_any [89] s bl bx w1 H.out).mono ?_
    intro e w2 hr
    rcases hr.cases with ⟨_, r, ho, rfl, hrd, hkq⟩ | ⟨ho, rfl, hkq⟩
    rotate_left
    · have HN := Lib.hid (show regP s = none by rw [HE.out, lit_map ho]; rfl)
      exact ⟨rfl, RdR.none HN.out rfl hkq⟩
    · have HL := Lib.hid (show litP [89] s = some r from lit_map ho)
      have HRD := Lib.hid hrd
      have HKQ := Lib.hid hkq
      clear hr ho hrd hkq f0 f1 f2 f3 f4 f5 fl
      obtain ⟨f0, f1, f2, f3, f4, f5, fl⟩ := HRD.out.funs
      go_wp2_with fail
      refine (integer_any r bl bx w2 HRD.out).mono ?_
      intro e w3 hr
      rcases hr.cases with ⟨v, r2, ho, rfl, hrd, hkq⟩ | ⟨ho, rfl, hkq⟩
      rotate_left
      · have HN := Lib.hid (show regP s = none by rw [HE.out, HL.out, Option.bind_some, ho]; rfl)
        exact ⟨rfl, RdR.none HN.out rfl (HKQ.out.trans hkq)⟩
      · have HV := Lib.hid (show regP s = if v < 1 ∨ 4096 < v then none else some ((-1) * v, r2) by rw [HE.out, HL.out, Option.bind_some, ho]; simp)
        have HRD3 := Lib.hid hrd
        have HKQ3 := Lib.hid (HKQ.out.trans hkq)
        clear hr ho hrd hkq f0 f1 f2 f3 f4 f5 fl
        by_cases h1 : v < 1
        · have q1 : decide (v < 1) = true := by simpa using h1
          have HN := Lib.hid (show regP s = none by rw [HV.out, if_pos (.inl h1)])
          clear h1
          go_wp2_with fail
          refine (fail_any w3).mono ?_
          rintro e w4 ⟨rfl, rfl⟩
          exact ⟨rfl, RdR.none HN.out rfl HKQ3.out⟩
        · by_cases h2 : 4096 < v
          · have q1 : decide (v < 1) = false := by simpa using h1
            have q2 : decide (4096 < v) = true := by simpa using h2
            have HN := Lib.hid (show regP s = none by rw [HV.out, if_pos (.inr h2)])
            clear h1 h2
            go_wp2_with fail
            refine (fail_any w3).mono ?_
            rintro e w4 ⟨rfl, rfl⟩
            exact ⟨rfl, RdR.none HN.out rfl HKQ3.out⟩
          · have q1 : decide (v < 1) = false := by simpa using h1
            have q2 : decide (4096 < v) = false := by simpa using h2
            have hw : IntKind.wrap .i64 ((-1) * v) = (-1) * v := wrapI (by omega)
            have hw1 : wrap64 v = v := by unfold wrap64; omega
            have hw2 : wrap64 (-v) = -v := by unfold wrap64; omega
            have hw3 : IntKind.wrap .i64 (-v) = -v := wrapI (by omega)
            have HN := Lib.hid (show regP s = some ((-1) * v, r2) by rw [HV.out, if_neg (by omega)])
            clear h1 h2
            go_wp2_with fail
            go_ret
            exact RdR.some HN.out (ret_int (by omega)) HRD3.out HKQ3.out
/-- the argument of a reader's method -/
@[reducible] def rdV (bl bx : Nat) : Value := .agg (rdCs bl bx)
theorem RdAt.boxed {w : World} {bl bx : Nat} {s : List UInt8} (h : RdAt w bl bx s) : RdAt (w.alloc (.cells (rdCs bl bx) 81)) bl bx s := h.next (bAlloc _ _)
set_option maxHeartbeats 2000000 in
theorem small_any (s : List UInt8) (bl bx : Nat) (w : World) (h : RdAt w bl bx s) : Calls Tryz.prog 84 #[rdV bl bx] w (RdR w bl bx (smallP s) fun v => .int .i64 v) := by
  obtain ⟨W, HW⟩ : ∃ X, Hid (X = w.alloc (.cells (rdCs bl bx) 81)) := ⟨_, rfl⟩
  obtain ⟨q, hq⟩ : ∃ q, Hid (q = w.heap.size) := ⟨_, rfl⟩
  have H := Lib.hid (show RdAt W bl bx s by rw [HW.out]; exact h.boxed)
  have HK := Lib.hid (show KeptQ bl w W by rw [HW.out]; exact KeptQ.of (bAlloc _ _))
  have HQ := Lib.hid (show Blk W q 81 (rdCs bl bx) by rw [HW.out, hq.out]; exact Blk.new _ _ _)
  clear h
  go_enter Tryz.func84, Tryz.ntmps84
  go_upto_region 1 with fail
  rw [← HW.out, ← hq.out]
  clear HW hq
  have f2 := HQ.out.cell 2
  have fl := HQ.out.lt
  simp at f2
  go_wp2_with fail
  refine (integer_any s bl bx W H.out).mono ?_
  intro e w3 hr
  rcases hr.cases with ⟨v, r2, ho, rfl, hrd, hkq⟩ | ⟨ho, rfl, hkq⟩
  rotate_left
  · have HN := Lib.hid (show smallP s = none by unfold smallP; rw [ho]; rfl)
    exact ⟨rfl, RdR.none HN.out rfl (HK.out.trans hkq)⟩
  · have HV := Lib.hid (show smallP s = if v < 0 ∨ 4096 < v then none else some (v, r2) by unfold smallP; rw [ho]; rfl)
    have HRD3 := Lib.hid hrd
    have HKQ3 := Lib.hid (HK.out.trans hkq)
    clear hr ho hrd hkq f2 fl
    by_cases h1 : v < 0
    · have q1 : decide (v < 0) = true := by simpa using h1
      have HN := Lib.hid (show smallP s = none by rw [HV.out, if_pos (.inl h1)])
      clear h1
      go_wp2_with fail
      refine (fail_any w3).mono ?_
      rintro e w4 ⟨rfl, rfl⟩
      exact ⟨rfl, RdR.none HN.out rfl HKQ3.out⟩
    · by_cases h2 : 4096 < v
      · have q1 : decide (v < 0) = false := by simpa using h1
        have q2 : decide (4096 < v) = true := by simpa using h2
        have HN := Lib.hid (show smallP s = none by rw [HV.out, if_pos (.inr h2)])
        clear h1 h2
        go_wp2_with fail
        refine (fail_any w3).mono ?_
        rintro e w4 ⟨rfl, rfl⟩
        exact ⟨rfl, RdR.none HN.out rfl HKQ3.out⟩
      · have q1 : decide (v < 0) = false := by simpa using h1
        have q2 : decide (4096 < v) = false := by simpa using h2
        have HN := Lib.hid (show smallP s = some (v, r2) by rw [HV.out, if_neg (by omega)])
        have hw1 : IntKind.wrap .i64 v = v := wrapI (by omega)
        clear h1 h2
        go_wp2_with fail
        go_ret
        exact RdR.some HN.out rfl HRD3.out HKQ3.out
end
section
open Go.RowKit

theorem RdAt.set {w : World} {bl bx : Nat} {s : List UInt8} (h : RdAt w bl bx s) {a : Addr} (hl : bl < a.block) (hx : bx < a.block) (v : Value) : RdAt (w.setCell a v) bl bx s := by
  refine ⟨h.ln.far (by omega) v, h.fs.far (by omega) v, h.ne, h.sz, ?_⟩
  obtain ⟨W0, h1, h2, h3⟩ := h.env
  exact ⟨W0, h1, h2, h3.setCell (by omega) _⟩
set_option maxRecDepth 100000 in
set_option maxHeartbeats 4000000 in
theorem rdpred_any (s : List UInt8) (bl bx : Nat) (w : World) (h : RdAt w bl bx s) : Calls Tryz.prog 45 #[rdV bl bx] w (RdR w bl bx (predP s) fun p => .agg #[.string (S p.1), .int .i64 p.2.1, .int .i64 p.2.2]) := by
  obtain ⟨W, HW⟩ : ∃ X, Hid (X = ((w.alloc (.cells (rdCs bl bx) 81)).alloc (.cells #[.string ⟨#[]⟩, .int .i64 0, .int .i64 0] 23)).alloc (.cells #[.string ⟨#[]⟩, .int .i64 0, .int .i64 0] 23)) := ⟨_, rfl⟩
  obtain ⟨q, hq⟩ : ∃ q, Hid (q = w.heap.size) := ⟨_, rfl⟩
  obtain ⟨rr, hrr⟩ : ∃ q, Hid (q = w.heap.size + 1) := ⟨_, rfl⟩
  obtain ⟨pp, hpp⟩ : ∃ q, Hid (q = w.heap.size + 1 + 1) := ⟨_, rfl⟩
  have hBW : Below w.heap.size w W := by rw [HW.out]; exact ((bAlloc w _).alloc (by simp) _).alloc (by simp; omega) _
  have H := Lib.hid (show RdAt W bl bx s from h.next hBW)
  have HK := Lib.hid (show KeptQ bl w W from KeptQ.of hBW)
  have HQ := Lib.hid (show Blk W q 81 (rdCs bl bx) by rw [HW.out, hq.out]; exact ((Blk.new _ _ _).alloc _).alloc _)
  have HR := Lib.hid (show Blk W rr 23 #[.string ⟨#[]⟩, .int .i64 0, .int .i64 0] by
    rw [HW.out, hrr.out]
    have h1 := (Blk.new (w.alloc (.cells (rdCs bl bx) 81)) 23 #[.string ⟨#[]⟩, .int .i64 0, .int .i64 0]).alloc (.cells #[.string ⟨#[]⟩, .int .i64 0, .int .i64 0] 23)
    rw [World.size_alloc] at h1
    exact h1)
  have HP := Lib.hid (show Blk W pp 23 #[.string ⟨#[]⟩, .int .i64 0, .int .i64 0] by
    rw [HW.out, hpp.out]
    have h1 := Blk.new ((w.alloc (.cells (rdCs bl bx) 81)).alloc (.cells #[.string ⟨#[]⟩, .int .i64 0, .int .i64 0] 23)) 23 #[.string ⟨#[]⟩, .int .i64 0, .int .i64 0]
    rw [World.size_alloc, World.size_alloc] at h1
    exact h1)
  have HPL := Lib.hid (show (bl < q ∧ bx < q) ∧ (bl < rr ∧ bx < rr) ∧ (bl < pp ∧ bx < pp) ∧ q ≠ rr ∧ q ≠ pp ∧ rr ≠ pp ∧ w.heap.size ≤ q ∧ w.heap.size ≤ rr ∧ w.heap.size ≤ pp by
    have h1 := h.ln.lt
    have h2 := h.fs.lt
    rw [hq.out, hrr.out, hpp.out]
    omega)
  clear h hBW
  go_enter Tryz.func45, Tryz.ntmps45
  go_upto_region 2 with fail
  rw [← HW.out, ← hpp.out, ← hrr.out, ← hq.out]
  clear HW hq hrr hpp
  have g1 := HQ.out.cell 1
  have gl := HQ.out.lt
  simp at g1
  go_wp2_with fail
  refine (starts_any [35] s bl bx W H.out).mono ?_
  rintro e w1 ⟨rfl, rfl⟩
  clear g1 gl
  cases hp : [35].isPrefixOf s
  · have HE := Lib.hid (show predP s = (nameP s).bind fun p => (litP [47] p.2).bind fun u => (smallP u).map fun q => ((p.1, q.1, 0), q.2) by unfold predP; rw [if_neg (by rw [hp]; simp)])
    clear hp
    have g3 := HQ.out.cell 3
    have gl := HQ.out.lt
    simp at g3
    go_wp2_with fail
    refine (name_any s bl bx w1 H.out).mono ?_
    intro e w2 hr
    rcases hr.cases with ⟨x, u, ho, rfl, hrd, hkq⟩ | ⟨ho, rfl, hkq⟩
    rotate_left
    · have HN := Lib.hid (show predP s = none by rw [HE.out, ho]; rfl)
      exact ⟨rfl, RdR.none HN.out rfl (HK.out.trans hkq)⟩
    · have HE2 := Lib.hid (show predP s = (litP [47] u).bind fun u => (smallP u).map fun q => ((x, q.1, 0), q.2) by rw [HE.out, ho]; rfl)
      have HQ2 := Lib.hid (hkq.blk HQ.out (by have := HPL.out; omega))
      have HR2 := Lib.hid (hkq.blk HR.out (by have := HPL.out; omega))
      have HP2 := Lib.hid (hkq.blk HP.out (by have := HPL.out; omega))
      have HRD2 := Lib.hid hrd
      have HK2 := Lib.hid (HK.out.trans hkq)
      clear hr ho hrd hkq g3 gl
      have p0 := HP2.out.cell 0
      have pf0 := HP2.out.frozen 0
      have pl := HP2.out.lt
      simp at p0
      go_upto_region 8 with fail
      obtain ⟨w3, hw3⟩ : ∃ X, Hid (X = w2.setCell ⟨pp, 0, none⟩ (.string (S x))) := ⟨_, rfl⟩
      have HP3 := Lib.hid (show Blk w3 pp 23 #[.string (S x), .int .i64 0, .int .i64 0] by rw [hw3.out]; simpa using HP2.out.set_ 0 (.string (S x)))
      rw [← hw3.out]
      have HQ3 := Lib.hid (show Blk w3 q 81 (rdCs bl bx) by rw [hw3.out]; exact HQ2.out.far (by have := HPL.out; show q ≠ pp; omega) _)
      have HR3 := Lib.hid (show Blk w3 rr 23 #[.string ⟨#[]⟩, .int .i64 0, .int .i64 0] by rw [hw3.out]; exact HR2.out.far (by have := HPL.out; show rr ≠ pp; omega) _)
      have HRD3 := Lib.hid (show RdAt w3 bl bx u by rw [hw3.out]; exact HRD2.out.set (by have := HPL.out; show bl < pp; omega) (by have := HPL.out; show bx < pp; omega) _)
      have HK3 := Lib.hid (show KeptQ bl w w3 by rw [hw3.out]; exact HK2.out.set (.inr (by have := HPL.out; show w.heap.size ≤ pp; omega)) _)
      clear hw3 HQ2 HR2 HP2 HRD2 HK2
      have g0 := HQ3.out.cell 0
      have gl := HQ3.out.lt
      simp at g0
      go_wp2_with fail
      refine (literal_any [47] u bl bx w3 HRD3.out).mono ?_
      intro e w4 hr
      rcases hr.cases with ⟨_, u4, ho, rfl, hrd, hkq⟩ | ⟨ho, rfl, hkq⟩
      rotate_left
      · have HN := Lib.hid (show predP s = none by rw [HE2.out, lit_map ho]; rfl)
        exact ⟨rfl, RdR.none HN.out rfl (HK3.out.trans hkq)⟩
      · have HE4 := Lib.hid (show predP s = (smallP u4).map fun q => ((x, q.1, 0), q.2) by rw [HE2.out, lit_map ho]; rfl)
        have HQ4 := Lib.hid (hkq.blk HQ3.out (by have := HPL.out; omega))
        have HR4 := Lib.hid (hkq.blk HR3.out (by have := HPL.out; omega))
        have HP4 := Lib.hid (hkq.blk HP3.out (by have := HPL.out; omega))
        have HRD4 := Lib.hid hrd
        have HK4 := Lib.hid (HK3.out.trans hkq)
        clear hr ho hrd hkq g0 gl
        have g0 := HQ4.out.cell 0
        have g1 := HQ4.out.cell 1
        have g2 := HQ4.out.cell 2
        have g3 := HQ4.out.cell 3
        have g4 := HQ4.out.cell 4
        have g5 := HQ4.out.cell 5
        have gl := HQ4.out.lt
        simp at g0 g1 g2 g3 g4 g5
        go_wp2_with fail
        refine (small_any u4 bl bx w4 HRD4.out).mono ?_
        intro e w5 hr
        rcases hr.cases with ⟨a, u5, ho, rfl, hrd, hkq⟩ | ⟨ho, rfl, hkq⟩
        rotate_left
        · have HN := Lib.hid (show predP s = none by rw [HE4.out, ho]; rfl)
          exact ⟨rfl, RdR.none HN.out rfl (HK4.out.trans hkq)⟩
        · have HN := Lib.hid (show predP s = some ((x, a, 0), u5) by rw [HE4.out, ho]; rfl)
          have HR5 := Lib.hid (hkq.blk HR4.out (by have := HPL.out; omega))
          have HP5 := Lib.hid (hkq.blk HP4.out (by have := HPL.out; omega))
          have HRD5 := Lib.hid hrd
          have HK5 := Lib.hid (HK4.out.trans hkq)
          clear hr ho hrd hkq g0 g1 g2 g3 g4 g5 gl
          have p1 := HP5.out.cell 1
          have pf1 := HP5.out.frozen 1
          have pl := HP5.out.lt
          simp at p1
          go_upto_region 10 with fail
          obtain ⟨w6, hw6⟩ : ∃ X, Hid (X = w5.setCell ⟨pp, 1, none⟩ (.int .i64 a)) := ⟨_, rfl⟩
          have HP6 := Lib.hid (show Blk w6 pp 23 #[.string (S x), .int .i64 a, .int .i64 0] by rw [hw6.out]; simpa using HP5.out.set_ 1 (.int .i64 a))
          rw [← hw6.out]
          have HR6 := Lib.hid (show Blk w6 rr 23 #[.string ⟨#[]⟩, .int .i64 0, .int .i64 0] by rw [hw6.out]; exact HR5.out.far (by have := HPL.out; show rr ≠ pp; omega) _)
          have HRD6 := Lib.hid (show RdAt w6 bl bx u5 by rw [hw6.out]; exact HRD5.out.set (by have := HPL.out; show bl < pp; omega) (by have := HPL.out; show bx < pp; omega) _)
          have HK6 := Lib.hid (show KeptQ bl w w6 by rw [hw6.out]; exact HK5.out.set (.inr (by have := HPL.out; show w.heap.size ≤ pp; omega)) _)
          clear hw6 p1 pf1 pl HR5 HP5 HRD5 HK5
          have p0 := HP6.out.cell 0
          have p1 := HP6.out.cell 1
          have p2 := HP6.out.cell 2
          have pl := HP6.out.lt
          have r0 := HR6.out.cell 0
          have r1 := HR6.out.cell 1
          have r2 := HR6.out.cell 2
          have rf0 := HR6.out.frozen 0
          have rf1 := HR6.out.frozen 1
          have rf2 := HR6.out.frozen 2
          have rl := HR6.out.lt
          simp at p0 p1 p2 r0 r1 r2
          go_wp2_with fail
          obtain ⟨w7, hw7⟩ : ∃ X, Hid (X = ((w6.setCell ⟨rr, 0, none⟩ (.string (S x))).setCell ⟨rr, 1, none⟩ (.int .i64 a)).setCell ⟨rr, 2, none⟩ (.int .i64 0)) := ⟨_, rfl⟩
          rw [← hw7.out]
          have HR7 := Lib.hid (show Blk w7 rr 23 #[.string (S x), .int .i64 a, .int .i64 0] by
            rw [hw7.out]
            have h := ((HR6.out.set_ 0 (.string (S x))).set_ 1 (.int .i64 a)).set_ 2 (.int .i64 0)
            simpa using h)
          have HRD7 := Lib.hid (show RdAt w7 bl bx u5 by
            rw [hw7.out]
            have h1 : bl < rr := by have := HPL.out; omega
            have h2 : bx < rr := by have := HPL.out; omega
            exact ((HRD6.out.set h1 h2 _).set h1 h2 _).set h1 h2 _)
          have HK7 := Lib.hid (show KeptQ bl w w7 by
            rw [hw7.out]
            have h1 : w.heap.size ≤ rr := by have := HPL.out; omega
            exact ((HK6.out.set (.inr h1) _).set (.inr h1) _).set (.inr h1) _)
          clear hw7 p0 p1 p2 pl r0 r1 r2 rf0 rf1 rf2 rl
          have r0 := HR7.out.cell 0
          have r1 := HR7.out.cell 1
          have r2 := HR7.out.cell 2
          simp at r0 r1 r2
          refine bodyPost_ret (v := .agg #[.string (S x), .int .i64 a, .int .i64 0]) (by simp only [results, Tryz.results45]; go_simp) rfl ?_
          exact RdR.some HN.out rfl HRD7.out HK7.out
  · have HE := Lib.hid (show predP s = ((litP [35] s).bind intP).bind fun p => if p.1 = 0 then none else (litP [47] p.2).bind fun u => (smallP u).map fun q => (([], q.1, p.1), q.2) by unfold predP; rw [if_pos hp])
    clear hp
    have g0 := HQ.out.cell 0
    have gl := HQ.out.lt
    simp at g0
    go_wp2_with fail
    refine (literal_any [35] s bl bx w1 H.out).mono ?_
    intro e wa hr
    rcases hr.cases with ⟨_, u0, ho, rfl, hrd, hkq⟩ | ⟨ho, rfl, hkq⟩
    rotate_left
    · have HN := Lib.hid (show predP s = none by rw [HE.out, lit_map ho]; rfl)
      exact ⟨rfl, RdR.none HN.out rfl (HK.out.trans hkq)⟩
    · have HL := Lib.hid (show litP [35] s = some u0 from lit_map ho)
      have HQa := Lib.hid (hkq.blk HQ.out (by have := HPL.out; omega))
      have HRa := Lib.hid (hkq.blk HR.out (by have := HPL.out; omega))
      have HPa := Lib.hid (hkq.blk HP.out (by have := HPL.out; omega))
      have HRDa := Lib.hid hrd
      have HKa := Lib.hid (HK.out.trans hkq)
      clear hr ho hrd hkq g0 gl HQ HR HP
      have g2 := HQa.out.cell 2
      have gl := HQa.out.lt
      simp at g2
      go_wp2_with fail
      refine (integer_any u0 bl bx wa HRDa.out).mono ?_
      intro e w2 hr
      rcases hr.cases with ⟨n, u, ho, rfl, hrd, hkq⟩ | ⟨ho, rfl, hkq⟩
      rotate_left
      · have HN := Lib.hid (show predP s = none by rw [HE.out, HL.out, Option.bind_some, ho]; rfl)
        exact ⟨rfl, RdR.none HN.out rfl (HKa.out.trans hkq)⟩
      · have HE1 := Lib.hid (show predP s = if n = 0 then none else (litP [47] u).bind fun u => (smallP u).map fun q => (([], q.1, n), q.2) by rw [HE.out, HL.out, Option.bind_some, ho]; rfl)
        have HQ2 := Lib.hid (hkq.blk HQa.out (by have := HPL.out; omega))
        have HR2 := Lib.hid (hkq.blk HRa.out (by have := HPL.out; omega))
        have HP2 := Lib.hid (hkq.blk HPa.out (by have := HPL.out; omega))
        have HRD2 := Lib.hid hrd
        have HK2 := Lib.hid (HKa.out.trans hkq)
        clear hr ho hrd hkq g2 gl HQa HRa HPa HRDa HKa
        have p2 := HP2.out.cell 2
        have pf2 := HP2.out.frozen 2
        have pl := HP2.out.lt
        simp at p2
        go_upto_region 5 with fail
        obtain ⟨w3, hw3⟩ : ∃ X, Hid (X = w2.setCell ⟨pp, 2, none⟩ (.int .i64 n)) := ⟨_, rfl⟩
        have HP3 := Lib.hid (show Blk w3 pp 23 #[.string (S []), .int .i64 0, .int .i64 n] by rw [hw3.out, show S ([] : List UInt8) = ⟨#[]⟩ from rfl]; simpa using HP2.out.set_ 2 (.int .i64 n))
        clear p2 pf2 pl
        rw [← hw3.out]
        have HQ3 := Lib.hid (show Blk w3 q 81 (rdCs bl bx) by rw [hw3.out]; exact HQ2.out.far (by have := HPL.out; show q ≠ pp; omega) _)
        have HR3 := Lib.hid (show Blk w3 rr 23 #[.string ⟨#[]⟩, .int .i64 0, .int .i64 0] by rw [hw3.out]; exact HR2.out.far (by have := HPL.out; show rr ≠ pp; omega) _)
        have HRD3 := Lib.hid (show RdAt w3 bl bx u by rw [hw3.out]; exact HRD2.out.set (by have := HPL.out; show bl < pp; omega) (by have := HPL.out; show bx < pp; omega) _)
        have HK3 := Lib.hid (show KeptQ bl w w3 by rw [hw3.out]; exact HK2.out.set (.inr (by have := HPL.out; show w.heap.size ≤ pp; omega)) _)
        clear hw3 HQ2 HR2 HP2 HRD2 HK2
        have p2 := HP3.out.cell 2
        have pl := HP3.out.lt
        simp at p2
        by_cases h0 : n = 0
        · have q1 : (n == 0) = true := by simpa using h0
          have HN := Lib.hid (show predP s = none by rw [HE1.out, if_pos h0])
          clear h0
          go_wp2_with fail
          refine (fail_any w3).mono ?_
          rintro e w4 ⟨rfl, rfl⟩
          exact ⟨rfl, RdR.none HN.out rfl HK3.out⟩
        · have q1 : (n == 0) = false := by simpa using h0
          have HE2 := Lib.hid (show predP s = (litP [47] u).bind fun u => (smallP u).map fun q => (([], q.1, n), q.2) by rw [HE1.out, if_neg h0])
          clear h0
          go_upto_region 8 with fail
          clear p2 pl q1
          have g0 := HQ3.out.cell 0
          have gl := HQ3.out.lt
          simp at g0
          go_wp2_with fail
          refine (literal_any [47] u bl bx w3 HRD3.out).mono ?_
          intro e w4 hr
          rcases hr.cases with ⟨_, u4, ho, rfl, hrd, hkq⟩ | ⟨ho, rfl, hkq⟩
          rotate_left
          · have HN := Lib.hid (show predP s = none by rw [HE2.out, lit_map ho]; rfl)
            exact ⟨rfl, RdR.none HN.out rfl (HK3.out.trans hkq)⟩
          · have HE4 := Lib.hid (show predP s = (smallP u4).map fun q => (([], q.1, n), q.2) by rw [HE2.out, lit_map ho]; rfl)
            have HQ4 := Lib.hid (hkq.blk HQ3.out (by have := HPL.out; omega))
            have HR4 := Lib.hid (hkq.blk HR3.out (by have := HPL.out; omega))
            have HP4 := Lib.hid (hkq.blk HP3.out (by have := HPL.out; omega))
            have HRD4 := Lib.hid hrd
            have HK4 := Lib.hid (HK3.out.trans hkq)
            clear hr ho hrd hkq g0 gl
            have g0 := HQ4.out.cell 0
            have g1 := HQ4.out.cell 1
            have g2 := HQ4.out.cell 2
            have g3 := HQ4.out.cell 3
            have g4 := HQ4.out.cell 4
            have g5 := HQ4.out.cell 5
            have gl := HQ4.out.lt
            simp at g0 g1 g2 g3 g4 g5
            go_wp2_with fail
            refine (small_any u4 bl bx w4 HRD4.out).mono ?_
            intro e w5 hr
            rcases hr.cases with ⟨a, u5, ho, rfl, hrd, hkq⟩ | ⟨ho, rfl, hkq⟩
            rotate_left
            · have HN := Lib.hid (show predP s = none by rw [HE4.out, ho]; rfl)
              exact ⟨rfl, RdR.none HN.out rfl (HK4.out.trans hkq)⟩
            · have HN := Lib.hid (show predP s = some (([], a, n), u5) by rw [HE4.out, ho]; rfl)
              have HR5 := Lib.hid (hkq.blk HR4.out (by have := HPL.out; omega))
              have HP5 := Lib.hid (hkq.blk HP4.out (by have := HPL.out; omega))
              have HRD5 := Lib.hid hrd
              have HK5 := Lib.hid (HK4.out.trans hkq)
              clear hr ho hrd hkq g0 g1 g2 g3 g4 g5 gl
              have p1 := HP5.out.cell 1
              have pf1 := HP5.out.frozen 1
              have pl := HP5.out.lt
              simp at p1
              go_upto_region 10 with fail
              obtain ⟨w6, hw6⟩ : ∃ X, Hid (X = w5.setCell ⟨pp, 1, none⟩ (.int .i64 a)) := ⟨_, rfl⟩
              have HP6 := Lib.hid (show Blk w6 pp 23 #[.string (S []), .int .i64 a, .int .i64 n] by rw [hw6.out]; simpa using HP5.out.set_ 1 (.int .i64 a))
              rw [← hw6.out]
              have HR6 := Lib.hid (show Blk w6 rr 23 #[.string ⟨#[]⟩, .int .i64 0, .int .i64 0] by rw [hw6.out]; exact HR5.out.far (by have := HPL.out; show rr ≠ pp; omega) _)
              have HRD6 := Lib.hid (show RdAt w6 bl bx u5 by rw [hw6.out]; exact HRD5.out.set (by have := HPL.out; show bl < pp; omega) (by have := HPL.out; show bx < pp; omega) _)
              have HK6 := Lib.hid (show KeptQ bl w w6 by rw [hw6.out]; exact HK5.out.set (.inr (by have := HPL.out; show w.heap.size ≤ pp; omega)) _)
              clear hw6 p1 pf1 pl HR5 HP5 HRD5 HK5
              have p0 := HP6.out.cell 0
              have p1 := HP6.out.cell 1
              have p2 := HP6.out.cell 2
              have pl := HP6.out.lt
              have r0 := HR6.out.cell 0
              have r1 := HR6.out.cell 1
              have r2 := HR6.out.cell 2
              have rf0 := HR6.out.frozen 0
              have rf1 := HR6.out.frozen 1
              have rf2 := HR6.out.frozen 2
              have rl := HR6.out.lt
              simp at p0 p1 p2 r0 r1 r2
              go_wp2_with fail
              obtain ⟨w7, hw7⟩ : ∃ X, Hid (X = ((w6.setCell ⟨rr, 0, none⟩ (.string (S []))).setCell ⟨rr, 1, none⟩ (.int .i64 a)).setCell ⟨rr, 2, none⟩ (.int .i64 n)) := ⟨_, rfl⟩
              rw [← hw7.out]
              have HR7 := Lib.hid (show Blk w7 rr 23 #[.string (S []), .int .i64 a, .int .i64 n] by
                rw [hw7.out]
                have h := ((HR6.out.set_ 0 (.string (S []))).set_ 1 (.int .i64 a)).set_ 2 (.int .i64 n)
                simpa using h)
              have HRD7 := Lib.hid (show RdAt w7 bl bx u5 by
                rw [hw7.out]
                have h1 : bl < rr := by have := HPL.out; omega
                have h2 : bx < rr := by have := HPL.out; omega
                exact ((HRD6.out.set h1 h2 _).set h1 h2 _).set h1 h2 _)
              have HK7 := Lib.hid (show KeptQ bl w w7 by
                rw [hw7.out]
                have h1 : w.heap.size ≤ rr := by have := HPL.out; omega
                exact ((HK6.out.set (.inr h1) _).set (.inr h1) _).set (.inr h1) _)
              clear hw7 p0 p1 p2 pl r0 r1 r2 rf0 rf1 rf2 rl
              have r0 := HR7.out.cell 0
              have r1 := HR7.out.cell 1
              have r2 := HR7.out.cell 2
              simp at r0 r1 r2
              refine bodyPost_ret (v := .agg #[.string (S []), .int .i64 a, .int .i64 n]) (by simp only [results, Tryz.results45]; go_simp) rfl ?_
              exact RdR.some HN.out rfl HRD7.out HK7.out
end
section
open Go.RowKit

set_option maxRecDepth 100000 in
set_option maxHeartbeats 4000000 in
theorem rdkey_any (s : List UInt8) (bl bx : Nat) (w : World) (h : RdAt w bl bx s) : Calls Tryz.prog 46 #[rdV bl bx] w (RdR w bl bx (keyR s) fun p => .agg #[.int .i64 p.1, .int .i64 p.2.1, .string (S p.2.2.1), .int .i64 p.2.2.2]) := by
  obtain ⟨W, HW⟩ : ∃ X, Hid (X = (w.alloc (.cells (rdCs bl bx) 81)).alloc (.cells #[.int .i64 0, .int .i64 0, .string ⟨#[]⟩, .int .i64 0] 25)) := ⟨_, rfl⟩
  obtain ⟨q, hq⟩ : ∃ q, Hid (q = w.heap.size) := ⟨_, rfl⟩
  obtain ⟨rr, hrr⟩ : ∃ q, Hid (q = w.heap.size + 1) := ⟨_, rfl⟩
  have hBW : Below w.heap.size w W := by rw [HW.out]; exact (bAlloc w _).alloc (by simp) _
  have H := Lib.hid (show RdAt W bl bx s from h.next hBW)
  have HK := Lib.hid (show KeptQ bl w W from KeptQ.of hBW)
  have HQ := Lib.hid (show Blk W q 81 (rdCs bl bx) by rw [HW.out, hq.out]; exact (Blk.new _ _ _).alloc _)
  have HR := Lib.hid (show Blk W rr 25 #[.int .i64 0, .int .i64 0, .string ⟨#[]⟩, .int .i64 0] by
    rw [HW.out, hrr.out]
    have h1 := Blk.new (w.alloc (.cells (rdCs bl bx) 81)) 25 #[.int .i64 0, .int .i64 0, .string ⟨#[]⟩, .int .i64 0]
    rw [World.size_alloc] at h1
    exact h1)
  have HPL := Lib.hid (show (bl < q ∧ bx < q) ∧ (bl < rr ∧ bx < rr) ∧ q ≠ rr ∧ w.heap.size ≤ q ∧ w.heap.size ≤ rr by
    have h1 := h.ln.lt
    have h2 := h.fs.lt
    rw [hq.out, hrr.out]
    omega)
  clear h hBW
  go_enter Tryz.func46, Tryz.ntmps46
  go_upto_region 1 with fail
  rw [← HW.out, ← hrr.out, ← hq.out]
  clear HW hq hrr
  have g1 := HQ.out.cell 1
  have gl := HQ.out.lt
  simp at g1
  go_wp2_with fail
  refine (starts_any [95] s bl bx W H.out).mono ?_
  rintro e w1 ⟨rfl, rfl⟩
  cases hp : [95].isPrefixOf s
  rotate_left
  · have HE := Lib.hid (show keyR s = (litP [95] s).map fun u => ((0, 0, [], 0), u) by unfold keyR; rw [if_pos hp])
    clear hp g1 gl
    have g0 := HQ.out.cell 0
    have gl := HQ.out.lt
    simp at g0
    go_wp2_with fail
    refine (literal_any [95] s bl bx w1 H.out).mono ?_
    intro e w2 hr
    rcases hr.cases with ⟨_, u, ho, rfl, hrd, hkq⟩ | ⟨ho, rfl, hkq⟩
    rotate_left
    · have HN := Lib.hid (show keyR s = none by rw [HE.out, lit_map ho]; rfl)
      exact ⟨rfl, RdR.none HN.out rfl (HK.out.trans hkq)⟩
    · have HN := Lib.hid (show keyR s = some ((0, 0, [], 0), u) by rw [HE.out, lit_map ho]; rfl)
      have HR2 := Lib.hid (hkq.blk HR.out (by have := HPL.out; omega))
      have HRD2 := Lib.hid hrd
      have HK2 := Lib.hid (HK.out.trans hkq)
      clear hr ho hrd hkq g0 gl
      have r0 := HR2.out.cell 0
      have r1 := HR2.out.cell 1
      have r2 := HR2.out.cell 2
      have r3 := HR2.out.cell 3
      have rf0 := HR2.out.frozen 0
      have rf1 := HR2.out.frozen 1
      have rf2 := HR2.out.frozen 2
      have rf3 := HR2.out.frozen 3
      have rl := HR2.out.lt
      simp at r0 r1 r2 r3
      go_wp2_with fail
      obtain ⟨wy, hwy⟩ : ∃ X, Hid (X = (((w2.setCell ⟨rr, 0, none⟩ (.int .i64 0)).setCell ⟨rr, 1, none⟩ (.int .i64 0)).setCell ⟨rr, 2, none⟩ (.string (⟨#[]⟩ : ByteArray))).setCell ⟨rr, 3, none⟩ (.int .i64 0)) := ⟨_, rfl⟩
      rw [← hwy.out]
      have HRY := Lib.hid (show Blk wy rr 25 #[.int .i64 0, .int .i64 0, .string (⟨#[]⟩ : ByteArray), .int .i64 0] by
        rw [hwy.out]
        have h := (((HR2.out.set_ 0 (.int .i64 0)).set_ 1 (.int .i64 0)).set_ 2 (.string (⟨#[]⟩ : ByteArray))).set_ 3 (.int .i64 0)
        simpa using h)
      have HRDY := Lib.hid (show RdAt wy bl bx u by
        rw [hwy.out]
        have h1 : bl < rr := by have := HPL.out; omega
        have h2 : bx < rr := by have := HPL.out; omega
        exact (((HRD2.out.set h1 h2 _).set h1 h2 _).set h1 h2 _).set h1 h2 _)
      have HKY := Lib.hid (show KeptQ bl w wy by
        rw [hwy.out]
        have h1 : w.heap.size ≤ rr := by have := HPL.out; omega
        exact (((HK2.out.set (.inr h1) _).set (.inr h1) _).set (.inr h1) _).set (.inr h1) _)
      clear hwy r0 r1 r2 r3 rf0 rf1 rf2 rf3 rl
      have r0 := HRY.out.cell 0
      have r1 := HRY.out.cell 1
      have r2 := HRY.out.cell 2
      have r3 := HRY.out.cell 3
      simp at r0 r1 r2 r3
      refine bodyPost_ret (v := .agg #[.int .i64 0, .int .i64 0, .string (⟨#[]⟩ : ByteArray), .int .i64 0]) (by simp only [results, Tryz.results46]; go_simp) rfl ?_
      exact RdR.some HN.out rfl HRDY.out HKY.out
  · have HE := Lib.hid (show keyR s = if [34].isPrefixOf s then (nameP s).bind fun p => if [47].isPrefixOf p.2 then ((litP [47] p.2).bind smallP).map fun q => ((3, 0, p.1, q.1), q.2) else some ((2, 0, p.1, 0), p.2) else (intP s).map fun p => ((1, p.1, [], 0), p.2) by unfold keyR; rw [if_neg (by rw [hp]; simp)])
    clear hp
    go_wp2_with fail
    refine (starts_any [34] s bl bx w1 H.out).mono ?_
    rintro e w2 ⟨rfl, rfl⟩
    cases hp : [34].isPrefixOf s
    · have HE2 := Lib.hid (show keyR s = (intP s).map fun p => ((1, p.1, [], 0), p.2) by rw [HE.out, if_neg (by rw [hp]; simp)])
      clear hp g1 gl
      have g2 := HQ.out.cell 2
      have gl := HQ.out.lt
      simp at g2
      go_wp2_with fail
      refine (integer_any s bl bx w2 H.out).mono ?_
      intro e w3 hr
      rcases hr.cases with ⟨n, u, ho, rfl, hrd, hkq⟩ | ⟨ho, rfl, hkq⟩
      rotate_left
      · have HN := Lib.hid (show keyR s = none by rw [HE2.out, ho]; rfl)
        exact ⟨rfl, RdR.none HN.out rfl (HK.out.trans hkq)⟩
      · have HN := Lib.hid (show keyR s = some ((1, n, [], 0), u) by rw [HE2.out, ho]; rfl)
        have HR2 := Lib.hid (hkq.blk HR.out (by have := HPL.out; omega))
        have HRD2 := Lib.hid hrd
        have HK2 := Lib.hid (HK.out.trans hkq)
        clear hr ho hrd hkq g2 gl
        have r0 := HR2.out.cell 0
        have r1 := HR2.out.cell 1
        have r2 := HR2.out.cell 2
        have r3 := HR2.out.cell 3
        have rf0 := HR2.out.frozen 0
        have rf1 := HR2.out.frozen 1
        have rf2 := HR2.out.frozen 2
        have rf3 := HR2.out.frozen 3
        have rl := HR2.out.lt
        simp at r0 r1 r2 r3
        go_wp2_with fail
        obtain ⟨wy, hwy⟩ : ∃ X, Hid (X = (((w3.setCell ⟨rr, 0, none⟩ (.int .i64 1)).setCell ⟨rr, 1, none⟩ (.int .i64 n)).setCell ⟨rr, 2, none⟩ (.string (⟨#[]⟩ : ByteArray))).setCell ⟨rr, 3, none⟩ (.int .i64 0)) := ⟨_, rfl⟩
        rw [← hwy.out]
        have HRY := Lib.hid (show Blk wy rr 25 #[.int .i64 1, .int .i64 n, .string (⟨#[]⟩ : ByteArray), .int .i64 0] by
          rw [hwy.out]
          have h := (((HR2.out.set_ 0 (.int .i64 1)).set_ 1 (.int .i64 n)).set_ 2 (.string (⟨#[]⟩ : ByteArray))).set_ 3 (.int .i64 0)
          simpa using h)
        have HRDY := Lib.hid (show RdAt wy bl bx u by
          rw [hwy.out]
          have h1 : bl < rr := by have := HPL.out; omega
          have h2 : bx < rr := by have := HPL.out; omega
          exact (((HRD2.out.set h1 h2 _).set h1 h2 _).set h1 h2 _).set h1 h2 _)
        have HKY := Lib.hid (show KeptQ bl w wy by
          rw [hwy.out]
          have h1 : w.heap.size ≤ rr := by have := HPL.out; omega
          exact (((HK2.out.set (.inr h1) _).set (.inr h1) _).set (.inr h1) _).set (.inr h1) _)
        clear hwy r0 r1 r2 r3 rf0 rf1 rf2 rf3 rl
        have r0 := HRY.out.cell 0
        have r1 := HRY.out.cell 1
        have r2 := HRY.out.cell 2
        have r3 := HRY.out.cell 3
        simp at r0 r1 r2 r3
        refine bodyPost_ret (v := .agg #[.int .i64 1, .int .i64 n, .string (⟨#[]⟩ : ByteArray), .int .i64 0]) (by simp only [results, Tryz.results46]; go_simp) rfl ?_
        exact RdR.some HN.out rfl HRDY.out HKY.out
    · have HE2 := Lib.hid (show keyR s = (nameP s).bind fun p => if [47].isPrefixOf p.2 then ((litP [47] p.2).bind smallP).map fun q => ((3, 0, p.1, q.1), q.2) else some ((2, 0, p.1, 0), p.2) by rw [HE.out, if_pos hp])
      clear hp g1 gl
      have g3 := HQ.out.cell 3
      have gl := HQ.out.lt
      simp at g3
      go_wp2_with fail
      refine (name_any s bl bx w2 H.out).mono ?_
      intro e w3 hr
      rcases hr.cases with ⟨x, u, ho, rfl, hrd, hkq⟩ | ⟨ho, rfl, hkq⟩
      rotate_left
      · have HN := Lib.hid (show keyR s = none by rw [HE2.out, ho]; rfl)
        exact ⟨rfl, RdR.none HN.out rfl (HK.out.trans hkq)⟩
      · have HE3 := Lib.hid (show keyR s = if [47].isPrefixOf u then ((litP [47] u).bind smallP).map fun q => ((3, 0, x, q.1), q.2) else some ((2, 0, x, 0), u) by rw [HE2.out, ho]; rfl)
        have HQ3 := Lib.hid (hkq.blk HQ.out (by have := HPL.out; omega))
        have HR3 := Lib.hid (hkq.blk HR.out (by have := HPL.out; omega))
        have HRD3 := Lib.hid hrd
        have HK3 := Lib.hid (HK.out.trans hkq)
        clear hr ho hrd hkq g3 gl HQ HR
        go_upto_region 7 with fail
        obtain ⟨pp, hpp⟩ : ∃ q, Hid (q = w3.heap.size) := ⟨_, rfl⟩
        obtain ⟨w4, hw4⟩ : ∃ X, Hid (X = w3.alloc (.cells #[.int .i64 2, .int .i64 0, .string (S x), .int .i64 0] 25)) := ⟨_, rfl⟩
        have HB4 := Lib.hid (show Below w3.heap.size w3 w4 by rw [hw4.out]; exact bAlloc _ _)
        have HP4 := Lib.hid (show Blk w4 pp 25 #[.int .i64 2, .int .i64 0, .string (S x), .int .i64 0] by rw [hw4.out, hpp.out]; exact Blk.new _ _ _)
        have HQ4 := Lib.hid (BlkNext HQ3.out HB4.out)
        have HR4 := Lib.hid (BlkNext HR3.out HB4.out)
        have HRD4 := Lib.hid (HRD3.out.next HB4.out)
        have HK4 := Lib.hid (HK3.out.trans (KeptQ.of HB4.out))
        have HPP := Lib.hid (show (bl < pp ∧ bx < pp) ∧ q ≠ pp ∧ rr ≠ pp ∧ w.heap.size ≤ pp by
          have h1 := HRD3.out.ln.lt
          have h2 := HRD3.out.fs.lt
          have h3 := HQ3.out.lt
          have h4 := HR3.out.lt
          have h5 := HK3.out.size
          rw [hpp.out]
          omega)
        rw [← hw4.out, ← hpp.out]
        clear hw4 hpp HB4 HQ3 HR3 HRD3 HK3
        have g1 := HQ4.out.cell 1
        have gl := HQ4.out.lt
        simp at g1
        go_wp2_with fail
        refine (starts_any [47] u bl bx w4 HRD4.out).mono ?_
        rintro e w5 ⟨rfl, rfl⟩
        cases hp : [47].isPrefixOf u
        · have HN := Lib.hid (show keyR s = some ((2, 0, x, 0), u) by rw [HE3.out, if_neg (by rw [hp]; simp)])
          clear hp g1 gl
          have p0 := HP4.out.cell 0
          have p1 := HP4.out.cell 1
          have p2 := HP4.out.cell 2
          have p3 := HP4.out.cell 3
          have pl := HP4.out.lt
          simp at p0 p1 p2 p3
          have r0 := HR4.out.cell 0
          have r1 := HR4.out.cell 1
          have r2 := HR4.out.cell 2
          have r3 := HR4.out.cell 3
          have rf0 := HR4.out.frozen 0
          have rf1 := HR4.out.frozen 1
          have rf2 := HR4.out.frozen 2
          have rf3 := HR4.out.frozen 3
          have rl := HR4.out.lt
          simp at r0 r1 r2 r3
          go_wp2_with fail
          clear p0 p1 p2 p3 pl
          obtain ⟨wy, hwy⟩ : ∃ X, Hid (X = (((w5.setCell ⟨rr, 0, none⟩ (.int .i64 2)).setCell ⟨rr, 1, none⟩ (.int .i64 0)).setCell ⟨rr, 2, none⟩ (.string (S x))).setCell ⟨rr, 3, none⟩ (.int .i64 0)) := ⟨_, rfl⟩
          rw [← hwy.out]
          have HRY := Lib.hid (show Blk wy rr 25 #[.int .i64 2, .int .i64 0, .string (S x), .int .i64 0] by
            rw [hwy.out]
            have h := (((HR4.out.set_ 0 (.int .i64 2)).set_ 1 (.int .i64 0)).set_ 2 (.string (S x))).set_ 3 (.int .i64 0)
            simpa using h)
          have HRDY := Lib.hid (show RdAt wy bl bx u by
            rw [hwy.out]
            have h1 : bl < rr := by have := HPL.out; omega
            have h2 : bx < rr := by have := HPL.out; omega
            exact (((HRD4.out.set h1 h2 _).set h1 h2 _).set h1 h2 _).set h1 h2 _)
          have HKY := Lib.hid (show KeptQ bl w wy by
            rw [hwy.out]
            have h1 : w.heap.size ≤ rr := by have := HPL.out; omega
            exact (((HK4.out.set (.inr h1) _).set (.inr h1) _).set (.inr h1) _).set (.inr h1) _)
          clear hwy r0 r1 r2 r3 rf0 rf1 rf2 rf3 rl
          have r0 := HRY.out.cell 0
          have r1 := HRY.out.cell 1
          have r2 := HRY.out.cell 2
          have r3 := HRY.out.cell 3
          simp at r0 r1 r2 r3
          refine bodyPost_ret (v := .agg #[.int .i64 2, .int .i64 0, .string (S x), .int .i64 0]) (by simp only [results, Tryz.results46]; go_simp) rfl ?_
          exact RdR.some HN.out rfl HRDY.out HKY.out
        · have HE4 := Lib.hid (show keyR s = ((litP [47] u).bind smallP).map fun q => ((3, 0, x, q.1), q.2) by rw [HE3.out, if_pos hp])
          clear hp g1 gl
          have g0 := HQ4.out.cell 0
          have gl := HQ4.out.lt
          simp at g0
          go_wp2_with fail
          refine (literal_any [47] u bl bx w5 HRD4.out).mono ?_
          intro e w6 hr
          rcases hr.cases with ⟨_, u6, ho, rfl, hrd, hkq⟩ | ⟨ho, rfl, hkq⟩
          rotate_left
          · have HN := Lib.hid (show keyR s = none by rw [HE4.out, lit_map ho]; rfl)
            exact ⟨rfl, RdR.none HN.out rfl (HK4.out.trans hkq)⟩
          · have HE5 := Lib.hid (show keyR s = (smallP u6).map fun q => ((3, 0, x, q.1), q.2) by rw [HE4.out, lit_map ho]; rfl)
            have HQ6 := Lib.hid (hkq.blk HQ4.out (by have := HPL.out; omega))
            have HR6 := Lib.hid (hkq.blk HR4.out (by have := HPL.out; omega))
            have HP6 := Lib.hid (hkq.blk HP4.out (by have := HPP.out; omega))
            have HRD6 := Lib.hid hrd
            have HK6 := Lib.hid (HK4.out.trans hkq)
            clear hr ho hrd hkq g0 gl
            have g0 := HQ6.out.cell 0
            have g1 := HQ6.out.cell 1
            have g2 := HQ6.out.cell 2
            have g3 := HQ6.out.cell 3
            have g4 := HQ6.out.cell 4
            have g5 := HQ6.out.cell 5
            have gl := HQ6.out.lt
            simp at g0 g1 g2 g3 g4 g5
            go_wp2_with fail
            refine (small_any u6 bl bx w6 HRD6.out).mono ?_
            intro e w7 hr
            rcases hr.cases with ⟨a, u7, ho, rfl, hrd, hkq⟩ | ⟨ho, rfl, hkq⟩
            rotate_left
            · have HN := Lib.hid (show keyR s = none by rw [HE5.out, ho]; rfl)
              exact ⟨rfl, RdR.none HN.out rfl (HK6.out.trans hkq)⟩
            · have HN := Lib.hid (show keyR s = some ((3, 0, x, a), u7) by rw [HE5.out, ho]; rfl)
              have HR7 := Lib.hid (hkq.blk HR6.out (by have := HPL.out; omega))
              have HP7 := Lib.hid (hkq.blk HP6.out (by have := HPP.out; omega))
              have HRD7 := Lib.hid hrd
              have HK7 := Lib.hid (HK6.out.trans hkq)
              clear hr ho hrd hkq g0 g1 g2 g3 g4 g5 gl
              have p0 := HP7.out.cell 0
              have p3 := HP7.out.cell 3
              have pf0 := HP7.out.frozen 0
              have pf3 := HP7.out.frozen 3
              have pl := HP7.out.lt
              simp at p0 p3
              go_upto_region 10 with fail
              obtain ⟨w8, hw8⟩ : ∃ X, Hid (X = (w7.setCell ⟨pp, 0, none⟩ (.int .i64 3)).setCell ⟨pp, 3, none⟩ (.int .i64 a)) := ⟨_, rfl⟩
              rw [← hw8.out]
              have HP8 := Lib.hid (show Blk w8 pp 25 #[.int .i64 3, .int .i64 0, .string (S x), .int .i64 a] by
                rw [hw8.out]
                have h := (HP7.out.set_ 0 (.int .i64 3)).set_ 3 (.int .i64 a)
                simpa using h)
              have HR8 := Lib.hid (show Blk w8 rr 25 #[.int .i64 0, .int .i64 0, .string ⟨#[]⟩, .int .i64 0] by rw [hw8.out]; exact (HR7.out.far (by have := HPP.out; show rr ≠ pp; omega) _).far (by have := HPP.out; show rr ≠ pp; omega) _)
              have HRD8 := Lib.hid (show RdAt w8 bl bx u7 by
                rw [hw8.out]
                have h1 : bl < pp := by have := HPP.out; omega
                have h2 : bx < pp := by have := HPP.out; omega
                exact (HRD7.out.set h1 h2 _).set h1 h2 _)
              have HK8 := Lib.hid (show KeptQ bl w w8 by
                rw [hw8.out]
                have h1 : w.heap.size ≤ pp := by have := HPP.out; omega
                exact (HK7.out.set (.inr h1) _).set (.inr h1) _)
              clear hw8 p0 p3 pf0 pf3 pl
              have p0 := HP8.out.cell 0
              have p1 := HP8.out.cell 1
              have p2 := HP8.out.cell 2
              have p3 := HP8.out.cell 3
              have pl := HP8.out.lt
              simp at p0 p1 p2 p3
              have r0 := HR8.out.cell 0
              have r1 := HR8.out.cell 1
              have r2 := HR8.out.cell 2
              have r3 := HR8.out.cell 3
              have rf0 := HR8.out.frozen 0
              have rf1 := HR8.out.frozen 1
              have rf2 := HR8.out.frozen 2
              have rf3 := HR8.out.frozen 3
              have rl := HR8.out.lt
              simp at r0 r1 r2 r3
              go_wp2_with fail
              clear p0 p1 p2 p3 pl
              obtain ⟨wy, hwy⟩ : ∃ X, Hid (X = (((w8.setCell ⟨rr, 0, none⟩ (.int .i64 3)).setCell ⟨rr, 1, none⟩ (.int .i64 0)).setCell ⟨rr, 2, none⟩ (.string (S x))).setCell ⟨rr, 3, none⟩ (.int .i64 a)) := ⟨_, rfl⟩
              rw [← hwy.out]
              have HRY := Lib.hid (show Blk wy rr 25 #[.int .i64 3, .int .i64 0, .string (S x), .int .i64 a] by
                rw [hwy.out]
                have h := (((HR8.out.set_ 0 (.int .i64 3)).set_ 1 (.int .i64 0)).set_ 2 (.string (S x))).set_ 3 (.int .i64 a)
                simpa using h)
              have HRDY := Lib.hid (show RdAt wy bl bx u7 by
                rw [hwy.out]
                have h1 : bl < rr := by have := HPL.out; omega
                have h2 : bx < rr := by have := HPL.out; omega
                exact (((HRD8.out.set h1 h2 _).set h1 h2 _).set h1 h2 _).set h1 h2 _)
              have HKY := Lib.hid (show KeptQ bl w wy by
                rw [hwy.out]
                have h1 : w.heap.size ≤ rr := by have := HPL.out; omega
                exact (((HK8.out.set (.inr h1) _).set (.inr h1) _).set (.inr h1) _).set (.inr h1) _)
              clear hwy r0 r1 r2 r3 rf0 rf1 rf2 rf3 rl
              have r0 := HRY.out.cell 0
              have r1 := HRY.out.cell 1
              have r2 := HRY.out.cell 2
              have r3 := HRY.out.cell 3
              simp at r0 r1 r2 r3
              refine bodyPost_ret (v := .agg #[.int .i64 3, .int .i64 0, .string (S x), .int .i64 a]) (by simp only [results, Tryz.results46]; go_simp) rfl ?_
              exact RdR.some HN.out rfl HRDY.out HKY.out
end
end Go.Proofs.YtbipeakinmbdiaaGreatDoor
