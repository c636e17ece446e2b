/-
  The walk of the law FramesBack.
-/
import Derived.Test.YtpkpffnabcgcbaaGb
import Derived.Test.YtpkpffnabcgcbaaPa
import Derived.Test.YtpkpffnabcgcbaaOp
import Derived.Deep.MidRow
namespace Go.Proofs.Ytpkpffnabcgcbaa
open Go.RowKit

/-- a clone is returned and laid in a variable: stacks of one's own -/
theorem StkV.var {w w' : World} {B q : Nat} {s : St} {ve vc : Value} {ys : List Value} {cs : List (Value × Value)} (h : StkV w B s ve vc ys cs) (hb : Below w.heap.size w w') (hq : Blk w' q 25 #[ve, .int .i64 s.e, vc]) (hB : B ≤ q) : OwnP w' B q s :=
  ⟨_, _, _, _, (h.next hb).box hq hB⟩
theorem OwnP.at {w : World} {B p : Nat} {s : St} (h : OwnP w B p s) : ∃ A c A' c', Blk w p 25 #[.slice A s.envs.length c, .int .i64 s.e, .slice A' s.chs.length c'] ∧ StAt w A c A' c' s := by
  obtain ⟨ve, vc, ys, cs, h⟩ := h
  obtain ⟨A, c, A', c', rfl, rfl, h1⟩ := h.at
  exact ⟨A, c, A', c', h.box, h1⟩
theorem OwnP.lt {w : World} {B p : Nat} {s : St} (h : OwnP w B p s) : B ≤ p ∧ p < w.heap.size := by
  obtain ⟨_, _, _, _, h⟩ := h
  exact ⟨h.low, h.box.lt⟩
theorem VRet.bool {s : St} {e : Ending} (h : VRet s e) : ∃ b, e = .returned (.bool b) ∧ (b = true ↔ Good s) := h
theorem held_push {s : St} {x : Ch} (g : Good s) (hf : ¬ 1048576 ≤ s.chs.length) :
    Held s.envs (s.chs ++ [{ x with env := s.e, envs := max s.e (protV s) }]) ⟨s.envs, s.e, s.chs ++ [{ x with env := s.e, envs := max s.e (protV s) }]⟩ ∧
      (s.envs.length : Int) ≤ highAt (s.chs ++ [{ x with env := s.e, envs := max s.e (protV s) }]) (s.chs ++ [{ x with env := s.e, envs := max s.e (protV s) }]).length := by
  have h := (held_do (E := []) (C := []) ⟨g, rfl, rfl⟩ (Int.le_refl _) ⟨5, 0, 0, 0, ⟨0, 0⟩, x⟩ (fun h => absurd (show (5 : Int) = 6 from h) (by decide)) (fun h => absurd (show (5 : Int) = 7 from h) (by decide))).good
  have e : (doV s ⟨5, 0, 0, 0, ⟨0, 0⟩, x⟩).1 = ⟨s.envs, s.e, s.chs ++ [{ x with env := s.e, envs := max s.e (protV s) }]⟩ := by
    show stOf s (pushV s x) = _
    unfold pushV
    rw [if_neg hf]
    rfl
  rw [e] at h
  refine ⟨⟨h, Pre.refl _, Pre.refl _⟩, ?_⟩
  have h1 := g.high
  rw [List.length_append]
  show _ ≤ (match (s.chs ++ [_])[s.chs.length]? with | some c => c.envs | none => 0)
  rw [List.getElem?_append_right (Nat.le_refl _), Nat.sub_self]
  show (s.envs.length : Int) ≤ max s.e (protV s)
  omega
set_option maxHeartbeats 8000000 in
set_option maxRecDepth 100000 in
theorem law_back (s : St) (A : Option Addr) (c : Nat) (A1 : Option Addr) (c1 : Nat) (x : Ch) (Aa : Option Addr) (ca : Nat) (Ab : Option Addr) (cb : Nat) (Al : Option Addr) (cl : Nat) (l : List Sp) (w : World)
    (hs : StIn w A c A1 c1 s) (hx : ChR w x Aa ca Ab cb) (hl : StepsAt w Al l) (hll : l.length ≤ 10000000000000) :
    Calls Try.prog 3 #[stV s A c A1 c1, chV x (.slice Aa x.args.length ca, .slice Ab x.alts.length cb), .slice Al l.length cl] w fun e w' => e = .returned (.bool true) ∧ Below w.heap.size w w' := by
  obtain ⟨W, HW⟩ : ∃ X, Hid (X = (w.alloc (.cells #[.slice A s.envs.length c, .int .i64 s.e, .slice A1 s.chs.length c1] 25)).alloc (.cells #[.int .i64 x.kind, .slice Aa x.args.length ca, .int .i64 x.env, .int .i64 x.id, .int .i64 x.pc, .int .i64 x.cut, .int .i64 x.mark, .int .i64 x.top, .int .i64 x.envs, .slice Ab x.alts.length cb, .int .i64 x.data] 29)) := ⟨_, rfl⟩
  have hbW : Below w.heap.size w W := by rw [HW.out]; exact (bAlloc w _).alloc (by simp) _
  obtain ⟨q3, hq3⟩ : ∃ q, Hid (q = w.heap.size) := ⟨_, rfl⟩
  obtain ⟨q4, hq4⟩ : ∃ q, Hid (q = w.heap.size + 1) := ⟨_, rfl⟩
  have hk3 : Blk W q3 25 #[.slice A s.envs.length c, .int .i64 s.e, .slice A1 s.chs.length c1] := by rw [HW.out, hq3.out]; exact (Blk.new w _ _).alloc _
  have hk4 : Blk W q4 29 #[.int .i64 x.kind, .slice Aa x.args.length ca, .int .i64 x.env, .int .i64 x.id, .int .i64 x.pc, .int .i64 x.cut, .int .i64 x.mark, .int .i64 x.top, .int .i64 x.envs, .slice Ab x.alts.length cb, .int .i64 x.data] := by
    rw [HW.out, hq4.out]
    have h1 := Blk.new (w.alloc (.cells #[.slice A s.envs.length c, .int .i64 s.e, .slice A1 s.chs.length c1] 25)) 29 #[.int .i64 x.kind, .slice Aa x.args.length ca, .int .i64 x.env, .int .i64 x.id, .int .i64 x.pc, .int .i64 x.cut, .int .i64 x.mark, .int .i64 x.top, .int .i64 x.envs, .slice Ab x.alts.length cb, .int .i64 x.data]
    rw [World.size_alloc] at h1
    exact h1
  have HB := Lib.hid hbW
  have HS := Lib.hid hs
  have HXR := Lib.hid hx
  have HL := Lib.hid hl
  have HK3 := Lib.hid hk3
  have HK4 := Lib.hid hk4
  obtain ⟨a0, a1, a2⟩ : W.cell? ⟨q3, 0, none⟩ = some (.slice A s.envs.length c) ∧ W.cell? ⟨q3, 1, none⟩ = some (.int .i64 s.e) ∧ W.cell? ⟨q3, 2, none⟩ = some (.slice A1 s.chs.length c1) := ⟨by simpa using hk3.cell 0, by simpa using hk3.cell 1, by simpa using hk3.cell 2⟩
  have al := hk3.lt
  clear hbW hs hx hl hk3 hk4
  go_enter Try.func3, Try.ntmps3
  go_upto_region 1 with fail
  rw [← HW.out, ← hq4.out, ← hq3.out]
  clear HW
  go_wp2_with fail
  refine (valid_any W (HS.out.at'.next HB.out) HS.out.envs HS.out.chs HS.out.y).mono ?_
  rintro e w1 ⟨hv, hb1⟩
  obtain ⟨b, rfl, hbg⟩ := hv.bool
  have HB1 := Lib.hid (bNext HB.out hb1)
  have HG := Lib.hid hbg
  have HK3' := Lib.hid (HK3.out.next hb1)
  have HK4' := Lib.hid (HK4.out.next hb1)
  clear HK3 HK4
  have HK3 := HK3'
  have HK4 := HK4'
  clear HK3' HK4'
  clear hv hb1 hbg a0 a1 a2 al HB
  cases b
  · go_wp2_with fail
    refine (awake_any w1).mono ?_
    rintro e w2 ⟨rfl, hb2⟩
    have HB2 := Lib.hid (bNext HB1.out hb2)
    clear hb2
    go_wp2_with fail
    go_ret
    exact ⟨rfl, HB2.out⟩
  have HGD := Lib.hid (HG.out.1 rfl)
  clear HG
  obtain ⟨a0, a1, a2⟩ : w1.cell? ⟨q3, 0, none⟩ = some (.slice A s.envs.length c) ∧ w1.cell? ⟨q3, 1, none⟩ = some (.int .i64 s.e) ∧ w1.cell? ⟨q3, 2, none⟩ = some (.slice A1 s.chs.length c1) := ⟨by simpa using HK3.out.cell 0, by simpa using HK3.out.cell 1, by simpa using HK3.out.cell 2⟩
  have al := HK3.out.lt
  go_wp2_with fail
  refine (clone_any s w1 (HS.out.at'.next HB1.out) HGD.out.envs HGD.out.chs (fun z hz => Nat.le_trans (HGD.out.sized.y z hz) (by omega)) HS.out.ch).mono ?_
  rintro e w2 ⟨⟨ve, vc, ys, cs, rfl, hsv⟩, hb2⟩
  obtain ⟨D, d, rfl, -⟩ := own_form hsv.envs
  obtain ⟨D', d', rfl, -⟩ := own_form hsv.chs
  have HV := Lib.hid hsv
  have HB2 := Lib.hid (bNext HB1.out hb2)
  have hz12 := hb2.size
  have HK3' := Lib.hid (HK3.out.next hb2)
  have HK4' := Lib.hid (HK4.out.next hb2)
  clear HK3 HK4 hsv a0 a1 a2 al
  go_upto_region 4 with fail
  obtain ⟨Xq7, HX⟩ : ∃ X, Hid (X = w2.alloc (.cells #[.slice D s.envs.length d, .int .i64 s.e, .slice D' s.chs.length d'] 25)) := ⟨_, rfl⟩
  have hbX : Below w2.heap.size w2 Xq7 := by rw [HX.out]; exact bAlloc _ _
  obtain ⟨q7, hqX⟩ : ∃ q, Hid (q = w2.heap.size) := ⟨_, rfl⟩
  have hkX : Blk Xq7 q7 25 #[.slice D s.envs.length d, .int .i64 s.e, .slice D' s.chs.length d'] := by rw [HX.out, hqX.out]; exact Blk.new _ _ _
  rw [← HX.out, ← hqX.out]
  have hqw : w2.heap.size ≤ q7 := by rw [hqX.out]; exact Nat.le_refl _
  have Hq7 := Lib.hid (HV.out.var hbX hkX (by omega))
  have HBXq7 := Lib.hid (bNext HB2.out hbX)
  have HK3 := Lib.hid (HK3'.out.next hbX)
  have HK4 := Lib.hid (HK4'.out.next hbX)
  have hszXq7 := hbX.size
  clear HX hkX HK3' HK4' HV HB2 hqw hqX
  clear hb2 hbX hz12 hszXq7 HB1
  have HQ4 := Lib.hid HK4.out
  obtain ⟨B, hB⟩ : ∃ B, Hid (B = Xq7.heap.size) := ⟨_, rfl⟩
  obtain ⟨a0, a1, a2⟩ : Xq7.cell? ⟨q3, 0, none⟩ = some (.slice A s.envs.length c) ∧ Xq7.cell? ⟨q3, 1, none⟩ = some (.int .i64 s.e) ∧ Xq7.cell? ⟨q3, 2, none⟩ = some (.slice A1 s.chs.length c1) := ⟨by simpa using HK3.out.cell 0, by simpa using HK3.out.cell 1, by simpa using HK3.out.cell 2⟩
  have al := HK3.out.lt
  go_wp2_with fail
  refine (clone_any s Xq7 (HS.out.at'.next HBXq7.out) HGD.out.envs HGD.out.chs (fun z hz => Nat.le_trans (HGD.out.sized.y z hz) (by omega)) HS.out.ch).mono ?_
  rintro e w2 ⟨⟨ve, vc, ys, cs, rfl, hsv⟩, hb2⟩
  obtain ⟨D, d, rfl, -⟩ := own_form hsv.envs
  obtain ⟨D', d', rfl, -⟩ := own_form hsv.chs
  have HV := Lib.hid hsv
  have HB2 := Lib.hid (bNext HBXq7.out hb2)
  have hz12 := hb2.size
  have HK3' := Lib.hid (HK3.out.next hb2)
  have HK4' := Lib.hid (HK4.out.next hb2)
  clear HK3 HK4 hsv a0 a1 a2 al
  go_upto_region 5 with fail
  obtain ⟨Xq8, HX⟩ : ∃ X, Hid (X = w2.alloc (.cells #[.slice D s.envs.length d, .int .i64 s.e, .slice D' s.chs.length d'] 25)) := ⟨_, rfl⟩
  have hbX : Below w2.heap.size w2 Xq8 := by rw [HX.out]; exact bAlloc _ _
  obtain ⟨q8, hqX⟩ : ∃ q, Hid (q = w2.heap.size) := ⟨_, rfl⟩
  have hkX : Blk Xq8 q8 25 #[.slice D s.envs.length d, .int .i64 s.e, .slice D' s.chs.length d'] := by rw [HX.out, hqX.out]; exact Blk.new _ _ _
  rw [← HX.out, ← hqX.out]
  have hqw : w2.heap.size ≤ q8 := by rw [hqX.out]; exact Nat.le_refl _
  have Hq8 := Lib.hid (HV.out.var hbX hkX (by omega))
  have HBXq8 := Lib.hid (bNext HB2.out hbX)
  have HK3 := Lib.hid (HK3'.out.next hbX)
  have HK4 := Lib.hid (HK4'.out.next hbX)
  have hszXq8 := hbX.size
  clear HX hkX HK3' HK4' HV HB2 hqw hqX
  have H8 := Lib.hid (show OwnP Xq8 B q8 s by rw [hB.out]; exact Hq8.out)
  have HI8 := Lib.hid (show Below B Xq7 Xq8 by rw [hB.out]; exact bNext hb2 hbX)
  have HBB : Hid (w.heap.size ≤ B) := Lib.hid (by rw [hB.out]; exact HBXq7.out.size)
  have hq4B : q4 < B := by rw [hB.out]; exact HQ4.out.lt
  have h8B := H8.out.lt
  have k0 := HK4.out.cell 0
  have k1 := HK4.out.cell 1
  have k2 := HK4.out.cell 2
  have k3 := HK4.out.cell 3
  have k4 := HK4.out.cell 4
  have k5 := HK4.out.cell 5
  have k6 := HK4.out.cell 6
  have k7 := HK4.out.cell 7
  have k8 := HK4.out.cell 8
  have k9 := HK4.out.cell 9
  have k10 := HK4.out.cell 10
  simp at k0 k1 k2 k3 k4 k5 k6 k7 k8 k9 k10
  have kl := HK4.out.lt
  clear hb2 hbX Hq8 HK3 hszXq8 hz12
  go_wp2_with fail
  refine (push_own (x := x) Xq8 H8.out HGD.out.sized HXR.out.1 (HXR.out.2.2.2.2.1.next HBXq8.out).row HXR.out.2.2.1 HXR.out.2.1 (HXR.out.2.2.2.2.2.next HBXq8.out).row HXR.out.2.2.2.1).mono ?_
  clear HBXq8
  rintro e w3 ⟨rfl, h3, hb3⟩
  have H3 := Lib.hid h3
  have HI3 := Lib.hid (HI8.out.trans hb3)
  clear h3 hb3 H8 HI8 HK4 k0 k1 k2 k3 k4 k5 k6 k7 k8 k9 k10 kl
  by_cases hfull : 1048576 ≤ s.chs.length
  · have hv : pushV s x = .error 13 := by unfold pushV; rw [if_pos hfull]
    rw [hv]
    dsimp only [errOf]
    have HIw := Lib.hid (HBXq7.out.trans (HI3.out.mono HBB.out))
    clear H3 HI3
    go_wp2_with fail
    refine (awake_any w3).mono ?_
    rintro e w4 ⟨rfl, hb4⟩
    have HB4 := Lib.hid (bNext HIw.out hb4)
    clear hb4
    go_wp2_with fail
    go_ret
    exact ⟨rfl, HB4.out⟩
  obtain ⟨C, hC⟩ : ∃ C : List Ch, Hid (C = s.chs ++ [({ x with env := s.e, envs := max s.e (protV s) } : Ch)]) := ⟨_, rfl⟩
  have hv : pushV s x = .ok ⟨s.envs, s.e, C⟩ := by unfold pushV; rw [if_neg hfull, hC.out]
  rw [hv] at H3 ⊢
  obtain ⟨hh, hhC⟩ := held_push (x := x) HGD.out hfull
  rw [← hC.out] at hh hhC
  have HH0 := Lib.hid hh
  have HHC := Lib.hid hhC
  obtain ⟨n, hn⟩ : ∃ n, Hid (n = C.length) := ⟨_, rfl⟩
  have hn2 : Hid (n = s.chs.length + 1) := Lib.hid (by rw [hn.out, hC.out, List.length_append]; rfl)
  have hn9 : n ≤ 1048577 := by have h1 := HGD.out.chs; have h2 := hn2.out; omega
  clear hv hh hhC
  dsimp only [errOf, stOf] at H3 ⊢
  obtain ⟨D, d, D', d', ys, cs, hst⟩ := H3.out.open
  obtain ⟨t0, t1, t2⟩ := hst.cells
  have tl := hst.box.lt
  rw [show (⟨s.envs, s.e, C⟩ : St).chs.length = n from hn.out.symm] at t2
  clear hst
  go_wp2_with fail
  go_loopw [10] (fun i wr => ∃ k : Nat, k ≤ 60 ∧ i = .int .i64 (k : Int) ∧ ∃ p, Hid (Below B Xq7 wr) ∧ Hid (OwnP wr B q8 p) ∧ Hid (Held s.envs C p)) (fun i _ => 60 - (intOf i).toNat)
  case atStart => exact ⟨0, by omega, rfl, _, HI3, H3, HH0⟩
  case round =>
    clear HI3 H3 HH0 t0 t1 t2 tl
    obtain ⟨k, hk, rfl, p, HI, HP, HH⟩ := hrel
    obtain ⟨D, d, D', d', ys, cs, hst⟩ := HP.out.open
    obtain ⟨t0, t1, t2⟩ := hst.cells
    have tl := hst.box.lt
    have hpl := HH.out.good.chs
    have hnp : n ≤ p.chs.length := by have h1 := HH.out.chs.len; have h2 := hn.out; omega
    clear hst
    go_upto_region 9 with fail
    go_cut [35] from 28 to 72 (fun s35 wx => s35 = .bool (decide (k < l.length ∧ k < 60)) ∧ wx = wr)
    case first =>
      by_cases h1 : k < l.length
      · by_cases h2 : k < 60
        · have h3 : decide (k < l.length ∧ k < 60) = true := decide_eq_true ⟨h1, h2⟩
          go_wp2_with fail
          go_meet
          exact ⟨by rw [h3]; first | done | (simp; omega) | simp, rfl⟩
        · have h3 : decide (k < l.length ∧ k < 60) = false := decide_eq_false fun h => h2 h.2
          go_wp2_with fail
          go_meet
          exact ⟨by rw [h3]; first | done | (simp; omega) | simp, rfl⟩
      · have h3 : decide (k < l.length ∧ k < 60) = false := decide_eq_false fun h => h1 h.1
        go_wp2_with fail
        go_meet
        exact ⟨by rw [h3]; first | done | (simp; omega) | simp, rfl⟩
    case rest =>
      obtain ⟨rfl, rfl⟩ := hcut
      by_cases hc : k < l.length ∧ k < 60
      · rw [decide_eq_true hc]
        obtain ⟨hlt, hlt6⟩ := hc
        obtain ⟨y, hy⟩ : ∃ y, l[k]? = some y := ⟨_, List.getElem?_eq_getElem hlt⟩
        obtain ⟨b, off, rfl, hb, hat⟩ := HL.out (by omega)
        obtain ⟨Ac, ac, Bc, bc, hz, hcr⟩ := hat k y hy
        obtain ⟨what, yn, yid, ypc, yc, ych⟩ := y
        have hBw := Lib.hid (HBXq7.out.trans (HI.out.mono HBB.out))
        have HZ := Lib.hid (show wc.rangeAt b (off + k * 17) [.int .i64 what, .int .i64 yn, .int .i64 yid, .int .i64 ypc, .int .i64 yc.tag, .int .i64 yc.n, .int .i64 ych.kind, .slice Ac ych.args.length ac, .int .i64 ych.env, .int .i64 ych.id, .int .i64 ych.pc, .int .i64 ych.cut, .int .i64 ych.mark, .int .i64 ych.top, .int .i64 ych.envs, .slice Bc ych.alts.length bc, .int .i64 ych.data] from fun j v hv => (hBw.out.cell (p := ⟨b, off + k * 17 + j, none⟩) hb).trans (hz j v hv))
        have HCR := Lib.hid (hcr.next hBw.out)
        clear hz hcr hat hy
        have z0 := HZ.out 0 _ rfl
        have z1 := HZ.out 1 _ rfl
        rw [Nat.add_zero] at z0
        try dsimp only at z0 z1
        have hbl : b < wc.heap.size := Nat.lt_of_lt_of_le hb hBw.out.size
        by_cases hw6 : what = 6
        · subst hw6
          by_cases h6n : (p.chs.length : Int) ≤ (n : Int)
          · go_wp2_with fail
            exact ⟨⟨k + 1, by omega, by go_num, _, HI, HP, HH⟩, by simp [intOf]; omega⟩
          · go_wp2_with (refine wpList_load_mid rfl 40 (.tmp 70) rfl b (off + k * 17) rfl _ _ HZ.out Try.underlying40 rfl (by kernel_rfl) ?_)
            refine (do_own (x := ych) (cl := yc) (Aa := Ac) (Ab := Bc) (ca := ac) (cb := bc) 6 yn yid ypc wc HP.out HH.out.good.sized HCR.out.1 HCR.out.2.2.2.2.1.row HCR.out.2.2.1 HCR.out.2.1 HCR.out.2.2.2.2.2.row HCR.out.2.2.2.1).mono ?_
            rintro e w6 ⟨oc, rfl, h6, hb6⟩
            have HP6 := Lib.hid h6
            have HI6 := Lib.hid (HI.out.trans hb6)
            have HH6 := Lib.hid (held_do HH.out HHC.out ⟨6, yn, yid, ypc, yc, ych⟩ (fun _ => by have h2 := hn.out; omega) (fun h => absurd (show (6 : Int) = 7 from h) (by decide)))
            clear h6 hb6 HP HI HH
            go_wp2_with fail
            exact ⟨⟨k + 1, by omega, by go_num, _, HI6, HP6, HH6⟩, by simp [intOf]; omega⟩
        by_cases hw7 : what = 7
        · subst hw7
          by_cases h7n : yn < (n : Int)
          · go_wp2_with fail
            exact ⟨⟨k + 1, by omega, by go_num, _, HI, HP, HH⟩, by simp [intOf]; omega⟩
          · go_wp2_with (refine wpList_load_mid rfl 40 (.tmp 70) rfl b (off + k * 17) rfl _ _ HZ.out Try.underlying40 rfl (by kernel_rfl) ?_)
            refine (do_own (x := ych) (cl := yc) (Aa := Ac) (Ab := Bc) (ca := ac) (cb := bc) 7 yn yid ypc wc HP.out HH.out.good.sized HCR.out.1 HCR.out.2.2.2.2.1.row HCR.out.2.2.1 HCR.out.2.1 HCR.out.2.2.2.2.2.row HCR.out.2.2.2.1).mono ?_
            rintro e w6 ⟨oc, rfl, h6, hb6⟩
            have HP6 := Lib.hid h6
            have HI6 := Lib.hid (HI.out.trans hb6)
            have HH6 := Lib.hid (held_do HH.out HHC.out ⟨7, yn, yid, ypc, yc, ych⟩ (fun h => absurd (show (7 : Int) = 6 from h) (by decide)) (fun _ => by have h2 := hn.out; show (C.length : Int) ≤ yn; omega))
            clear h6 hb6 HP HI HH
            go_wp2_with fail
            exact ⟨⟨k + 1, by omega, by go_num, _, HI6, HP6, HH6⟩, by simp [intOf]; omega⟩
        go_wp2_with (refine wpList_load_mid rfl 40 (.tmp 70) rfl b (off + k * 17) rfl _ _ HZ.out Try.underlying40 rfl (by kernel_rfl) ?_)
        refine (do_own (x := ych) (cl := yc) (Aa := Ac) (Ab := Bc) (ca := ac) (cb := bc) what yn yid ypc wc HP.out HH.out.good.sized HCR.out.1 HCR.out.2.2.2.2.1.row HCR.out.2.2.1 HCR.out.2.1 HCR.out.2.2.2.2.2.row HCR.out.2.2.2.1).mono ?_
        rintro e w6 ⟨oc, rfl, h6, hb6⟩
        have HP6 := Lib.hid h6
        have HI6 := Lib.hid (HI.out.trans hb6)
        have HH6 := Lib.hid (held_do HH.out HHC.out ⟨what, yn, yid, ypc, yc, ych⟩ (fun h => absurd h hw6) (fun h => absurd h hw7))
        clear h6 hb6 HP HI HH
        go_wp2_with fail
        exact ⟨⟨k + 1, by omega, by go_num, _, HI6, HP6, HH6⟩, by simp [intOf]; omega⟩
      · rw [decide_eq_false hc]
        clear hc
        obtain ⟨p2, hp2, hgp2, hpop⟩ := back (c := x) HGD.out (by have h := HH.out; rw [hC.out] at h; exact h)
        have hcutc : Calls Try.prog 13 #[.pointer (some ⟨q8, 0, none⟩), .int .i64 (n : Int)] wc (RetO B q8 (.int .i64 0) p2 wc) := by
          have h := cut_own (n : Int) wc HP.out HH.out.good.sized
          rw [hn2.out, show ((s.chs.length + 1 : Nat) : Int) = (s.chs.length : Int) + 1 by omega, hp2] at h
          rw [hn2.out, show ((s.chs.length + 1 : Nat) : Int) = (s.chs.length : Int) + 1 by omega]
          exact h
        have HCC := Lib.hid hcutc
        have HGP := Lib.hid hgp2
        have HPOP := Lib.hid hpop
        have hnl : ¬ ((p.chs.length : Int) < (n : Int)) := by omega
        clear hp2 hgp2 hpop hcutc
        go_wp2_with fail
        refine HCC.out.mono ?_
        rintro e w6 ⟨rfl, h6, hb6⟩
        have HP6 := Lib.hid h6
        have HI6 := Lib.hid (HI.out.trans hb6)
        clear h6 hb6 HP HI HCC t0 t1 t2 tl
        go_wp2_with fail
        have hpc := pop_own w6 HP6.out HGP.out.sized
        rw [HPOP.out] at hpc
        refine hpc.mono ?_
        clear hpc
        rintro e w7 ⟨B1, b1, B2, b2, ⟨rfl, h7, hb7⟩, hca, hcb⟩
        dsimp only [popC, errOf, chV, popS] at h7 hca hcb ⊢
        have HP7 := Lib.hid h7
        have HI7 := Lib.hid (HI6.out.trans hb7)
        have HA7 := Lib.hid hca
        have HB7 := Lib.hid hcb
        clear h7 hb7 hca hcb HP6 HI6
        go_upto_region 16 with fail
        obtain ⟨X8, HX8⟩ : ∃ X, Hid (X = w7.alloc (.cells #[.int .i64 x.kind, .slice B1 x.args.length b1, .int .i64 s.e, .int .i64 x.id, .int .i64 x.pc, .int .i64 x.cut, .int .i64 x.mark, .int .i64 x.top, .int .i64 (max s.e (protV s)), .slice B2 x.alts.length b2, .int .i64 x.data] 29)) := ⟨_, rfl⟩
        have hb8 : Below w7.heap.size w7 X8 := by rw [HX8.out]; exact bAlloc _ _
        obtain ⟨q11, hq11⟩ : ∃ q, Hid (q = w7.heap.size) := ⟨_, rfl⟩
        have k11 : Blk X8 q11 29 #[.int .i64 x.kind, .slice B1 x.args.length b1, .int .i64 s.e, .int .i64 x.id, .int .i64 x.pc, .int .i64 x.cut, .int .i64 x.mark, .int .i64 x.top, .int .i64 (max s.e (protV s)), .slice B2 x.alts.length b2, .int .i64 x.data] := by rw [HX8.out, hq11.out]; exact Blk.new _ _ _
        rw [← HX8.out, ← hq11.out]
        have h78 := HP7.out.lt
        have hq11B : B ≤ q11 := by rw [hq11.out]; omega
        obtain ⟨X9, HX9⟩ : ∃ X, Hid (X = X8.drew) := ⟨_, rfl⟩
        have hb9 : Below w7.heap.size w7 X9 := bNext hb8 (by rw [HX9.out]; exact bDrew _)
        have k11' : Blk X9 q11 29 _ := k11.next (by rw [HX9.out]; exact bDrew _)
        have HP9 := Lib.hid (HP7.out.next hb9)
        have HI9 := Lib.hid (HI7.out.trans (hb9.mono (by omega)))
        have HA9 := Lib.hid (HA7.out.next hb9)
        have HB9 := Lib.hid (HB7.out.next hb9)
        have K4 := HQ4.out.below HI9.out hq4B
        have hq411 : q4 ≠ q11 := by omega
        have HF11 := Lib.hid (fun h : q11 ∈ ([] : List Nat) => h)
        refine wp_region_N (fun w' => Blk w' q4 29 #[.int .i64 x.kind, .slice Aa x.args.length ca, .int .i64 x.env, .int .i64 x.id, .int .i64 x.pc, .int .i64 x.cut, .int .i64 x.mark, .int .i64 x.top, .int .i64 x.envs, .slice Ab x.alts.length cb, .int .i64 x.data]) (fun j => decide (j < 7)) (by kernel_rfl) ?_
        rw [← HX9.out]
        have hS0 : (fun w' => Blk w' q4 29 #[.int .i64 x.kind, .slice Aa x.args.length ca, .int .i64 x.env, .int .i64 x.id, .int .i64 x.pc, .int .i64 x.cut, .int .i64 x.mark, .int .i64 x.top, .int .i64 x.envs, .slice Ab x.alts.length cb, .int .i64 x.data]) X9 := K4
        have m2 := k11'.cell 2
        have m8 := k11'.cell 8
        have f2 := k11'.frozen 2
        have f8 := k11'.frozen 8
        have ml := k11'.lt
        simp at m2 m8
        refine wpAnyN_take (i := 0) (v := ?v1) rfl (by kernel_rfl) (by kernel_rfl) (by kernel_rfl) (by kernel_rfl) (fun _ _ _ h => h) (Or.inl ⟨by rfl, ?hy1⟩) (by assumption) ?_
        case hy1 => intro w hSw; have e2 := hSw.cell 2; have e8 := hSw.cell 8; have el := hSw.lt; simp at e2 e8; go_simp; try with_reducible rfl
        simp only [Act.put, List.getElem_toArray, List.getElem_cons_zero, List.setIfInBounds_toArray, List.set_cons_zero, List.set_cons_succ]
        refine wpAnyN_take (i := 1) (v := ?v2) rfl (by kernel_rfl) (by kernel_rfl) (by kernel_rfl) (by kernel_rfl) (fun _ _ _ h => h) (Or.inl ⟨by rfl, ?hy2⟩) (by assumption) ?_
        case hy2 => intro w hSw; have e2 := hSw.cell 2; have e8 := hSw.cell 8; have el := hSw.lt; simp at e2 e8; go_simp; try with_reducible rfl
        simp only [Act.put, List.getElem_toArray, List.getElem_cons_zero, List.getElem_cons_succ, List.setIfInBounds_toArray, List.set_cons_zero, List.set_cons_succ]
        refine wpAnyN_take (i := 2) (v := ?v3) rfl (by kernel_rfl) (by kernel_rfl) (by kernel_rfl) (by kernel_rfl) (fun _ _ _ h => h) (Or.inl ⟨by rfl, ?hy3⟩) (by assumption) ?_
        case hy3 => intro w hSw; have e2 := hSw.cell 2; have e8 := hSw.cell 8; have el := hSw.lt; simp at e2 e8; go_simp; try with_reducible rfl
        simp only [Act.put, List.getElem_toArray, List.getElem_cons_zero, List.getElem_cons_succ, List.setIfInBounds_toArray, List.set_cons_zero, List.set_cons_succ]
        refine wpAnyN_take (i := 3) (v := ?v4) rfl (by kernel_rfl) (by kernel_rfl) (by kernel_rfl) (by kernel_rfl) (fun _ _ _ h => h) (Or.inl ⟨by rfl, ?hy4⟩) (by assumption) ?_
        case hy4 => intro w hSw; have e2 := hSw.cell 2; have e8 := hSw.cell 8; have el := hSw.lt; simp at e2 e8; go_simp; try with_reducible rfl
        simp only [Act.put, List.getElem_toArray, List.getElem_cons_zero, List.getElem_cons_succ, List.setIfInBounds_toArray, List.set_cons_zero, List.set_cons_succ]
        refine wpAnyN_take (i := 4) (v := ?v5) rfl (by kernel_rfl) (by kernel_rfl) (by kernel_rfl) (by kernel_rfl) (fun _ _ _ h => h) (Or.inl ⟨by rfl, ?hy5⟩) (by assumption) ?_
        case hy5 => intro w hSw; have e2 := hSw.cell 2; have e8 := hSw.cell 8; have el := hSw.lt; simp at e2 e8; go_simp; try with_reducible rfl
        simp only [Act.put, List.getElem_toArray, List.getElem_cons_zero, List.getElem_cons_succ, List.setIfInBounds_toArray, List.set_cons_zero, List.set_cons_succ]
        refine wpAnyN_one (i := 5) (by kernel_rfl) rfl (fun K hK => ?_)
        simp only [List.getElem_toArray, List.getElem_cons_zero, List.getElem_cons_succ]
        go_simp
        refine hK _ _ (fun _ => hS0.far (by simpa using hq411) _) ?_
        (try simp only [Act.put, List.setIfInBounds_toArray, List.set_cons_zero, List.set_cons_succ])
        refine wpAnyN_one (i := 6) (by kernel_rfl) rfl (fun K hK => ?_)
        simp only [List.getElem_toArray, List.getElem_cons_zero, List.getElem_cons_succ]
        go_simp
        refine hK _ _ (fun _ => hS0.far (by simpa using hq411) _) ?_
        (try simp only [Act.put, List.setIfInBounds_toArray, List.set_cons_zero, List.set_cons_succ])
        refine wpAnyN_one (i := 7) (by kernel_rfl) rfl (fun K hK => ?_)
        simp only [List.getElem_toArray, List.getElem_cons_zero, List.getElem_cons_succ]
        go_simp
        refine hK _ _ (fun h => absurd h (by decide)) ?_
        (try simp only [Act.put, List.setIfInBounds_toArray, List.set_cons_zero, List.set_cons_succ])
        refine wpAnyN_done (by kernel_rfl) ?_ _
        have hk12 := (k11'.set_ 2 (.int .i64 x.env)).set_ 8 (.int .i64 x.envs)
        have hu12 := ((Upd.refl q11 X9).set 2 (.int .i64 x.env)).set 8 (.int .i64 x.envs)
        obtain ⟨XF, HXF⟩ : ∃ X, Hid (X = (X9.setCell ⟨q11, 2, none⟩ (.int .i64 x.env)).setCell ⟨q11, 8, none⟩ (.int .i64 x.envs)) := ⟨_, rfl⟩
        rw [← HXF.out] at hk12 hu12 ⊢
        have hk12 : Blk XF q11 29 #[.int .i64 x.kind, .slice B1 x.args.length b1, .int .i64 x.env, .int .i64 x.id, .int .i64 x.pc, .int .i64 x.cut, .int .i64 x.mark, .int .i64 x.top, .int .i64 x.envs, .slice B2 x.alts.length b2, .int .i64 x.data] := by simpa using hk12
        have hbF : Below w7.heap.size w7 XF := hu12.below hb9 (by rw [hq11.out]; exact Nat.le_refl _)
        have HPF := Lib.hid (HP7.out.next hbF)
        have HIF := Lib.hid (HI7.out.trans (hbF.mono (by omega)))
        have HAF := Lib.hid (HA7.out.next hbF)
        have HBF := Lib.hid (HB7.out.next hbF)
        have K4F := HQ4.out.below HIF.out hq4B
        have HQ7 := Lib.hid (Hq7.out.next (by have h := HIF.out; rw [hB.out] at h; exact h))
        have HXF4 := Lib.hid (HXR.out.next (HBXq7.out.trans (HIF.out.mono HBB.out)))
        obtain ⟨E1, e1, E2, e2, hk8, hs8⟩ := HPF.out.at
        obtain ⟨F1, f1, F2, f2', hk7, hs7⟩ := HQ7.out.at
        have HS8 := Lib.hid hs8
        have HS7 := Lib.hid hs7
        have HK8 := Lib.hid hk8
        have HK7 := Lib.hid hk7
        have m0 := hk12.cell 0
        have n0 := K4F.cell 0
        have m1 := hk12.cell 1
        have n1 := K4F.cell 1
        have m2 := hk12.cell 2
        have n2 := K4F.cell 2
        have m3 := hk12.cell 3
        have n3 := K4F.cell 3
        have m4 := hk12.cell 4
        have n4 := K4F.cell 4
        have m5 := hk12.cell 5
        have n5 := K4F.cell 5
        have m6 := hk12.cell 6
        have n6 := K4F.cell 6
        have m7 := hk12.cell 7
        have n7 := K4F.cell 7
        have m8 := hk12.cell 8
        have n8 := K4F.cell 8
        have m9 := hk12.cell 9
        have n9 := K4F.cell 9
        have m10 := hk12.cell 10
        have n10 := K4F.cell 10
        simp at m0 n0 m1 n1 m2 n2 m3 n3 m4 n4 m5 n5 m6 n6 m7 n7 m8 n8 m9 n9 m10 n10
        have ml := hk12.lt
        have nl := K4F.lt
        clear HXF hk12 hu12 K4 K4F k11 k11' hS0 HX8 HX9 hb8 hb9 hq11 HP9 HI9 HA9 HB9 HP7 HI7 HA7 HB7 hs8 hs7 hk8 hk7 f2 f8 HF11
        go_wp2_with fail
        refine (sameChoice_any x XF HAF.out HXF4.out.2.2.2.2.1 HBF.out HXF4.out.2.2.2.2.2 HXF4.out.2.2.1 HXF4.out.2.2.2.1).mono ?_
        rintro e wg ⟨rfl, hbg⟩
        have g8 := HK8.out.next hbg
        have g7 := HK7.out.next hbg
        have g80 := g8.cell 0
        have g81 := g8.cell 1
        have g82 := g8.cell 2
        have g70 := g7.cell 0
        have g71 := g7.cell 1
        have g72 := g7.cell 2
        simp at g80 g81 g82 g70 g71 g72
        have gl8 := g8.lt
        have gl7 := g7.lt
        have HG8 := Lib.hid (HS8.out.next hbg)
        have HG7 := Lib.hid (HS7.out.next hbg)
        have HIG := Lib.hid (HIF.out.trans (hbg.mono (by have h := HPF.out.lt; omega)))
        have hBg : B ≤ wg.heap.size := by have h := HPF.out.lt; omega
        clear g8 g7 hbg m0 n0 m1 n1 m2 n2 m3 n3 m4 n4 m5 n5 m6 n6 m7 n7 m8 n8 m9 n9 m10 n10 ml nl
        go_wp2_with fail
        refine (same_any s wg HG8.out HG7.out (by have h := HGD.out.envs; omega) (by have h := HGD.out.chs; omega) (fun z hz => Nat.le_trans (HGD.out.sized.y z hz) (by omega)) HS.out.ch).mono ?_
        rintro e wi ⟨rfl, hbi⟩
        have HII := Lib.hid (HIG.out.trans (hbi.mono (by omega)))
        clear hbi
        go_wp2_with fail
        refine (awake_any wi).mono ?_
        rintro e wj ⟨rfl, hbj⟩
        have HIJ := Lib.hid (bNext (HBXq7.out.trans (HII.out.mono HBB.out)) hbj)
        clear hbj
        go_wp2_with fail
        go_ret
        exact ⟨rfl, HIJ.out⟩
end Go.Proofs.Ytpkpffnabcgcbaa
