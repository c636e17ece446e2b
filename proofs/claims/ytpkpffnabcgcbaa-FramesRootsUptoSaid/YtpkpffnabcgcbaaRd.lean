/-
  The walk of the law FramesRoots.
-/
import Derived.Test.YtpkpffnabcgcbaaRc
import Derived.Test.YtpkpffnabcgcbaaHa
import Derived.Test.YtpkpffnabcgcbaaVo
import Derived.Test.YtpkpffnabcgcbaaFn
namespace Go.Proofs.Ytpkpffnabcgcbaa
open Go.RowKit

theorem own_next2 {w w2 : World} {e size n b : Nat} {v : Value} {xs : List Value} (h : w.ownsRow b e size v n xs) (hb : Below w.heap.size w w2) : w2.ownsRow b e size v n xs :=
  own_stay h fun g hg => hb.block g (h.lt g hg).2
/-- the end of a slice -/
theorem slice_tail (A : Option Addr) (n c k : Nat) (hk : k ≤ n) (hc : CapOk A n c) : ∃ A' c', (k < n → ∀ b off, A = some ⟨b, off, none⟩ → A' = some ⟨b, off + k * 2, none⟩) ∧
    ∀ w : World, (Instr.sliceAt 26 (.slice A n c) (some (.int .i64 (k : Int))) none none).run Try.prog w = .ok (.slice A' (n - k) c') w := by
  have hu : Try.prog.underlying 26 = some (.slice (Try.prog.elem 26)) := by kernel_rfl
  have he : Try.prog.elem 26 = 38 := by kernel_rfl
  refine ⟨if c = k then A else A.map (·.add (k * 2)), c - k, fun hlt b off e => ?_, fun w => ?_⟩
  · subst e
    have := hc.1
    rw [if_neg (by omega)]
    simp only [Option.map_some, add_plain']
  · rw [run_sliceAt_slice w 26 _ _ _ _ hu, run_slice_l w 26 A n c hu .i64 (k : Int) (by omega) (by omega), he, Try.sizeOf38 w]
    simp [Result.andThen, sliced]
theorem tail_cells {w : World} {A A' : Option Addr} {l pre m : List Cl} (h : CellsAt w A l) (e : l = pre ++ m) (hA : pre.length < l.length → ∀ b off, A = some ⟨b, off, none⟩ → A' = some ⟨b, off + pre.length * 2, none⟩) : CellsAt w A' m := fun hn => by
  have hlt : pre.length < l.length := by rw [e, List.length_append]; omega
  obtain ⟨b, off, rfl, hb, hc⟩ := h (by omega)
  refine ⟨b, off + pre.length * 2, hA hlt b off rfl, hb, fun i x hx => ?_⟩
  have := hc (pre.length + i) x (by rw [e, List.getElem?_append_right (by omega), Nat.add_sub_cancel_left]; exact hx)
  rwa [Nat.add_mul, ← Nat.add_assoc] at this
theorem cellsH_take (l : List Ch) (n : Nat) : (cellsH (l.take n)).length ≤ (cellsH l).length := by
  have := cellsH_app (l.take n) (l.drop n)
  rw [List.take_append_drop] at this
  rw [this, List.length_append]
  omega
theorem roots_any {A A1 : Option Addr} {c c1 : Nat} (s : St) (w : World) (hS : StAt w A c A1 c1 s) (hle : s.envs.length ≤ 1000000000000) (hlc : s.chs.length ≤ 1000000000000) (htot : (rootsV s).length ≤ 1000000000000) :
    Calls Try.prog 21 #[stV s A c A1 c1] w fun e W' => ∃ v, e = .returned v ∧ W'.ownsRow w.heap.size 38 2 v (rootsV s).length (cCs (rootsV s)) ∧ Below w.heap.size w W' := by
  have hl : (rootsV s).length = (cellsE s.envs).length + (cellsH s.chs).length := List.length_append
  exact callsIn_wide.1 (Roots_in Fence.wide 3 trivial trivial trivial rfl (Nat.le_refl _) s w hS hle hlc (fun x hx => by have := mem_cellsE hx; omega) (fun x hx => by have := mem_cellsH hx; omega) htot)
set_option maxHeartbeats 8000000 in
set_option maxRecDepth 100000 in
theorem law_roots (s : St) (A : Option Addr) (c : Nat) (A1 : Option Addr) (c1 : Nat) (y : Int) (cl : Cl) (x : Ch) (Aa : Option Addr) (ca : Nat) (Ab : Option Addr) (cb : Nat) (w : World)
    (hs : StIn w A c A1 c1 s) (hx : ChR w x Aa ca Ab cb) (ht : (rootsV s).length ≤ 1048576) (hxl : x.args.length ≤ 1048576) :
    Calls Try.prog 5 #[stV s A c A1 c1, .int .i64 y, cl.v, chV x (.slice Aa x.args.length ca, .slice Ab x.alts.length cb)] w fun e w' => e = .returned (.bool true) ∧ Below w.heap.size w w' := by
  obtain ⟨W, HW⟩ : ∃ X, Hid (X = ((w.alloc (.cells #[.slice A s.envs.length c, .int .i64 s.e, .slice A1 s.chs.length c1] 25)).alloc (.cells #[.int .i64 cl.tag, .int .i64 cl.n] 38)).alloc (.cells #[.int .i64 x.kind, .slice Aa x.args.length ca, .int .i64 x.env, .int .i64 x.id, .int .i64 x.pc, .int .i64 x.cut, .int .i64 x.mark, .int .i64 x.top, .int .i64 x.envs, .slice Ab x.alts.length cb, .int .i64 x.data] 29)) := ⟨_, rfl⟩
  have hbW : Below w.heap.size w W := by rw [HW.out]; exact ((bAlloc w _).alloc (by simp) _).alloc (by simp; omega) _
  obtain ⟨q4, hq4⟩ : ∃ q, Hid (q = w.heap.size) := ⟨_, rfl⟩
  obtain ⟨q6, hq6⟩ : ∃ q, Hid (q = w.heap.size + 1) := ⟨_, rfl⟩
  obtain ⟨q7, hq7⟩ : ∃ q, Hid (q = w.heap.size + 1 + 1) := ⟨_, rfl⟩
  have hk4 : Blk W q4 25 #[.slice A s.envs.length c, .int .i64 s.e, .slice A1 s.chs.length c1] := by rw [HW.out, hq4.out]; exact ((Blk.new w _ _).alloc _).alloc _
  have hk6 : Blk W q6 38 #[.int .i64 cl.tag, .int .i64 cl.n] := by
    rw [HW.out, hq6.out]
    have h1 := Blk.new (w.alloc (.cells #[.slice A s.envs.length c, .int .i64 s.e, .slice A1 s.chs.length c1] 25)) 38 #[.int .i64 cl.tag, .int .i64 cl.n]
    rw [World.size_alloc] at h1
    exact h1.alloc _
  have hk7 : Blk W q7 29 #[.int .i64 x.kind, .slice Aa x.args.length ca, .int .i64 x.env, .int .i64 x.id, .int .i64 x.pc, .int .i64 x.cut, .int .i64 x.mark, .int .i64 x.top, .int .i64 x.envs, .slice Ab x.alts.length cb, .int .i64 x.data] := by
    rw [HW.out, hq7.out]
    have h1 := Blk.new ((w.alloc (.cells #[.slice A s.envs.length c, .int .i64 s.e, .slice A1 s.chs.length c1] 25)).alloc (.cells #[.int .i64 cl.tag, .int .i64 cl.n] 38)) 29 #[.int .i64 x.kind, .slice Aa x.args.length ca, .int .i64 x.env, .int .i64 x.id, .int .i64 x.pc, .int .i64 x.cut, .int .i64 x.mark, .int .i64 x.top, .int .i64 x.envs, .slice Ab x.alts.length cb, .int .i64 x.data]
    rw [World.size_alloc, World.size_alloc] at h1
    exact h1
  have HB := Lib.hid hbW
  have HS := Lib.hid hs
  have HXR := Lib.hid hx
  have HT := Lib.hid ht
  have HK4 := Lib.hid hk4
  have HK6 := Lib.hid hk6
  have HK7 := Lib.hid hk7
  obtain ⟨a0, a1, a2⟩ : W.cell? ⟨q4, 0, none⟩ = some (.slice A s.envs.length c) ∧ W.cell? ⟨q4, 1, none⟩ = some (.int .i64 s.e) ∧ W.cell? ⟨q4, 2, none⟩ = some (.slice A1 s.chs.length c1) := ⟨by simpa using hk4.cell 0, by simpa using hk4.cell 1, by simpa using hk4.cell 2⟩
  have al := hk4.lt
  clear hbW hs hx ht hk4 hk6 hk7
  go_enter Try.func5, Try.ntmps5
  go_upto_region 1 with fail
  rw [← HW.out, ← hq7.out, ← hq6.out, ← hq4.out]
  clear HW
  go_wp2_with fail
  refine (valid_any W (HS.out.at'.next HB.out) HS.out.envs HS.out.chs HS.out.y).mono ?_
  rintro e w1 ⟨hv, hb1⟩
  obtain ⟨b, rfl, hbg⟩ := hv.bool
  have HB1 := Lib.hid (bNext HB.out hb1)
  have HG := Lib.hid hbg
  have J4 := Lib.hid (HK4.out.next hb1)
  have J6 := Lib.hid (HK6.out.next hb1)
  have J7 := Lib.hid (HK7.out.next hb1)
  clear hv hb1 hbg a0 a1 a2 al HB HK4 HK6 HK7
  cases b
  · go_wp2_with fail
    refine (awake_any w1).mono ?_
    rintro e w2 ⟨rfl, hb2⟩
    have HB2 := Lib.hid (bNext HB1.out hb2)
    clear hb2
    go_wp2_with fail
    go_ret
    exact ⟨rfl, HB2.out⟩
  have HGD := Lib.hid (HG.out.1 rfl)
  clear HG
  obtain ⟨a0, a1, a2⟩ : w1.cell? ⟨q4, 0, none⟩ = some (.slice A s.envs.length c) ∧ w1.cell? ⟨q4, 1, none⟩ = some (.int .i64 s.e) ∧ w1.cell? ⟨q4, 2, none⟩ = some (.slice A1 s.chs.length c1) := ⟨by simpa using J4.out.cell 0, by simpa using J4.out.cell 1, by simpa using J4.out.cell 2⟩
  have al := J4.out.lt
  go_wp2_with fail
  refine (clone_any s w1 (HS.out.at'.next HB1.out) HGD.out.envs HGD.out.chs (fun z hz => Nat.le_trans (HGD.out.sized.y z hz) (by omega)) HS.out.ch).mono ?_
  rintro e w2 ⟨⟨ve, vc, ys, cs, rfl, hsv⟩, hb2⟩
  obtain ⟨D, d, rfl, -⟩ := own_form hsv.envs
  obtain ⟨D', d', rfl, -⟩ := own_form hsv.chs
  have HV := Lib.hid hsv
  have HB2 := Lib.hid (bNext HB1.out hb2)
  have hz12 := hb2.size
  have I6 := Lib.hid (J6.out.next hb2)
  have I7 := Lib.hid (J7.out.next hb2)
  clear hsv a0 a1 a2 al J4
  go_upto_region 4 with fail
  obtain ⟨X9, HX⟩ : ∃ X, Hid (X = w2.alloc (.cells #[.slice D s.envs.length d, .int .i64 s.e, .slice D' s.chs.length d'] 25)) := ⟨_, rfl⟩
  have hbX : Below w2.heap.size w2 X9 := by rw [HX.out]; exact bAlloc _ _
  obtain ⟨q9, hq9⟩ : ∃ q, Hid (q = w2.heap.size) := ⟨_, rfl⟩
  have hkX : Blk X9 q9 25 #[.slice D s.envs.length d, .int .i64 s.e, .slice D' s.chs.length d'] := by rw [HX.out, hq9.out]; exact Blk.new _ _ _
  rw [← HX.out, ← hq9.out]
  obtain ⟨B, hB⟩ : ∃ B, Hid (B = w1.heap.size) := ⟨_, rfl⟩
  have HP := Lib.hid (show OwnP X9 B q9 s by rw [hB.out]; exact HV.out.var hbX hkX (by rw [hq9.out]; exact hz12))
  have HBX := Lib.hid (bNext HB2.out hbX)
  have hq6B : q6 < B := by rw [hB.out]; exact J6.out.lt
  have hq7B : q7 < B := by rw [hB.out]; exact J7.out.lt
  have hwB : w.heap.size ≤ B := by rw [hB.out]; exact HB1.out.size
  have L6 := Lib.hid (I6.out.next hbX)
  have L7 := Lib.hid (I7.out.next hbX)
  clear HX hkX hbX HB2 HV hz12 HB1 J6 J7 hb2 I6 I7
  have b0 := L6.out.cell 0
  have b1 := L6.out.cell 1
  simp at b0 b1
  have bl := L6.out.lt
  go_wp2_with fail
  refine (set_own y cl X9 HP.out HGD.out.sized).mono ?_
  rintro e w3 ⟨rfl, h3, hb3⟩
  obtain ⟨s1, hs1⟩ : ∃ s1, Hid (s1 = stOf s (setV s y cl)) := ⟨_, rfl⟩
  rw [← hs1.out] at h3
  have HP3 := Lib.hid h3
  have HB3 := Lib.hid (HBX.out.trans (hb3.mono hwB))
  have M6 := Lib.hid (L6.out.below hb3 hq6B)
  have M7 := Lib.hid (L7.out.below hb3 hq7B)
  have HG1 : Hid (Good s1) := Lib.hid (by rw [hs1.out]; exact good_set HGD.out y cl)
  clear h3 hb3 b0 b1 bl HP HBX L6 L7
  have c0 := M7.out.cell 0
  have c1 := M7.out.cell 1
  have c2 := M7.out.cell 2
  have c3 := M7.out.cell 3
  have c4 := M7.out.cell 4
  have c5 := M7.out.cell 5
  have c6 := M7.out.cell 6
  have c7 := M7.out.cell 7
  have c8 := M7.out.cell 8
  have c9 := M7.out.cell 9
  have c10 := M7.out.cell 10
  simp at c0 c1 c2 c3 c4 c5 c6 c7 c8 c9 c10
  have cll := M7.out.lt
  go_wp2_with fail
  refine (push_own (x := x) w3 HP3.out HG1.out.sized HXR.out.1 (HXR.out.2.2.2.2.1.next HB3.out).row HXR.out.2.2.1 HXR.out.2.1 (HXR.out.2.2.2.2.2.next HB3.out).row HXR.out.2.2.2.1).mono ?_
  rintro e w4 ⟨rfl, h4, hb4⟩
  obtain ⟨s2, hs2⟩ : ∃ s2, Hid (s2 = stOf s1 (pushV s1 x)) := ⟨_, rfl⟩
  rw [← hs2.out] at h4
  have HP4 := Lib.hid h4
  have HB4 := Lib.hid (HB3.out.trans (hb4.mono hwB))
  have N6 := Lib.hid (M6.out.below hb4 hq6B)
  have N7 := Lib.hid (M7.out.below hb4 hq7B)
  have HG2 : Hid (Good s2) := Lib.hid (by rw [hs2.out]; exact good_push HG1.out x)
  have HPL := Lib.hid (roots_plain HGD.out y cl x hs1.out hs2.out)
  have hrl : (rootsV s2).length ≤ 3000000 := by have := HPL.out.2.2; have := HT.out; omega
  obtain ⟨E1, e1, E2, e2, hkb, hat⟩ := HP4.out.at
  have HKB := Lib.hid hkb
  have HAT := Lib.hid hat
  have t0 := hkb.cell 0
  have t1 := hkb.cell 1
  have t2 := hkb.cell 2
  simp at t0 t1 t2
  have tl := hkb.lt
  clear h4 hb4 HP3 HB3 M6 M7 hkb hat c0 c1 c2 c3 c4 c5 c6 c7 c8 c9 c10 cll
  go_wp2_with fail
  refine (roots_any s2 w4 HAT.out (by have := HG2.out.envs; omega) (by have := HG2.out.chs; omega) (by omega)).mono ?_
  rintro e w5 ⟨vr, rfl, hrow, hb5⟩
  obtain ⟨Ar, cr, rfl, hcr⟩ := own_form hrow
  have HROW := Lib.hid hrow
  have HB5 := Lib.hid (bNext HB4.out hb5)
  have P6 := Lib.hid (N6.out.next hb5)
  have P7 := Lib.hid (N7.out.next hb5)
  have HAT5 := Lib.hid (HAT.out.next hb5)
  have hkb := HKB.out.next hb5
  have t0 := hkb.cell 0
  have t2 := hkb.cell 2
  simp at t0 t2
  have tl := hkb.lt
  have HG2e := HG2.out.envs
  have HG2c := HG2.out.chs
  have HRL : Hid ((rootsV s2).length = (cellsE s2.envs).length + (cellsH s2.chs).length) := Lib.hid List.length_append
  have hE := HRL.out
  clear hrow hb5 hkb HP4 HB4 N6 N7 HAT
  go_wp2_with fail
  go_loop [13, 34] (fun nv iv => ∃ i : Nat, iv = .int .i64 (i : Int) ∧ i ≤ s2.envs.length ∧ nv = .int .i64 ((cellsE (s2.envs.take i)).length : Int)) (fun _ iv => s2.envs.length - (intOf iv).toNat)
  case atStart => exact ⟨0, rfl, Nat.zero_le _, rfl⟩
  case round =>
    obtain ⟨i, rfl, hi, rfl⟩ := hrel
    by_cases hil : i < s2.envs.length
    · obtain ⟨z, hz⟩ : ∃ z, s2.envs[i]? = some z := ⟨_, List.getElem?_eq_getElem hil⟩
      obtain ⟨b, off, rfl, hb, hat⟩ := HAT5.out.envs (by omega)
      obtain ⟨Ay, cy, -, -, -, z3, -, -⟩ := hat i z hz
      have hE2 : (cellsE (s2.envs.take (i + 1))).length = (cellsE (s2.envs.take i)).length + z.y.length := by rw [List.take_add_one, hz, cellsE_app, List.length_append]; simp [cellsE]
      have hE3 := cellsE_take s2.envs (i + 1)
      have HE2 := Lib.hid hE2
      have hbd : (cellsE (s2.envs.take i)).length + z.y.length ≤ 3000000 := by omega
      clear hE2 hE3 hat hz
      go_wp2_with fail
      exact ⟨⟨i + 1, by go_num, by omega, by rw [HE2.out]; go_num⟩, by simp [intOf]; omega⟩
    · obtain rfl : i = s2.envs.length := by omega
      rw [List.take_length]
      go_wp2_with fail
      go_loop [13, 50] (fun nv iv => ∃ i : Nat, iv = .int .i64 (i : Int) ∧ i ≤ s2.chs.length ∧ nv = .int .i64 (((cellsE s2.envs).length + (cellsH (s2.chs.take i)).length : Nat) : Int)) (fun _ iv => s2.chs.length - (intOf iv).toNat)
      case atStart => exact ⟨0, rfl, Nat.zero_le _, rfl⟩
      case round =>
        obtain ⟨i, rfl, hi, rfl⟩ := hrel
        by_cases hil : i < s2.chs.length
        · obtain ⟨z, hz⟩ : ∃ z, s2.chs[i]? = some z := ⟨_, List.getElem?_eq_getElem hil⟩
          obtain ⟨b, off, rfl, hb, hat⟩ := HAT5.out.chs (by omega)
          obtain ⟨Az, cz, Az', cz', -, z1, -⟩ := hat i z hz
          have hE2 : (cellsH (s2.chs.take (i + 1))).length = (cellsH (s2.chs.take i)).length + z.args.length := by rw [List.take_add_one, hz, cellsH_app, List.length_append]; simp [cellsH]
          have hE3 := cellsH_take s2.chs (i + 1)
          have HE2 := Lib.hid hE2
          have hbd : (cellsE s2.envs).length + (cellsH (s2.chs.take i)).length + z.args.length ≤ 3000000 := by omega
          clear hE2 hE3 hat hz
          go_wp2_with fail
          exact ⟨⟨i + 1, by go_num, by omega, by rw [HE2.out]; go_num⟩, by simp [intOf]; omega⟩
        · obtain rfl : i = s2.chs.length := by omega
          rw [List.take_length, ← hE]
          clear hE t0 t2 tl
          have b0 := P6.out.cell 0
          have b1 := P6.out.cell 1
          simp at b0 b1
          have bl := P6.out.lt
          go_wp2_with fail
          go_loopw [16, 65] (fun fv iv wr => ∃ (i nd : Nat) (fb : Bool), iv = .int .i64 (i : Int) ∧ i ≤ (rootsV s2).length ∧ fv = .bool fb ∧ Hid (fb = true ↔ cl ∈ (rootsV s2).take i) ∧ wr = w5.drewN nd) (fun _ iv _ => (rootsV s2).length - (intOf iv).toNat)
          case atStart => exact ⟨0, 0, false, rfl, Nat.zero_le _, rfl, Lib.hid (by simp), rfl⟩
          case round =>
            obtain ⟨i, nd, fb, rfl, hi, rfl, HF, rfl⟩ := hrel
            by_cases hil : i < (rootsV s2).length
            · obtain ⟨z, hz⟩ : ∃ z, (rootsV s2)[i]? = some z := ⟨_, List.getElem?_eq_getElem hil⟩
              obtain ⟨b, off, rfl, hb, hat⟩ := own_cellsAt HROW.out (by omega)
              obtain ⟨z0, z1⟩ := hat i z hz
              have HZ := Lib.hid hz
              clear hat hz
              cases fb with
              | true =>
                have HN : Hid (cl ∈ (rootsV s2).take (i + 1)) := Lib.hid (by rw [List.take_add_one, HZ.out]; simp; exact .inl (HF.out.1 rfl))
                go_wp2_with fail
                go_quiet (fail)
                rename_i nq
                go_wp2_with fail
                exact ⟨⟨i + 1, _, true, by go_num, by omega, rfl, Lib.hid ⟨fun _ => HN.out, fun _ => rfl⟩, rfl⟩, by simp [intOf]; omega⟩
              | false =>
                have hq := fun w => c_eql z.tag z.n cl.tag cl.n w
                have HN : Hid ((z.tag == cl.tag && z.n == cl.n) = true ↔ cl ∈ (rootsV s2).take (i + 1)) := Lib.hid (by
                  have hno : cl ∉ (rootsV s2).take i := fun h => Bool.false_ne_true (HF.out.2 h)
                  rw [List.take_add_one, HZ.out]
                  simp [hno]
                  obtain ⟨za, zb⟩ := z
                  obtain ⟨ca, cb⟩ := cl
                  simp
                  constructor
                  · rintro ⟨h1, h2⟩; exact ⟨h1.symm, h2.symm⟩
                  · rintro ⟨h1, h2⟩; exact ⟨h1.symm, h2.symm⟩)
                generalize (z.tag == cl.tag && z.n == cl.n) = fb at hq HN
                go_wp2_with fail
                go_quiet (fail)
                rename_i nq
                go_wp2_with fail
                exact ⟨⟨i + 1, _, fb, by go_num, by omega, rfl, HN, rfl⟩, by simp [intOf]; omega⟩
            · obtain rfl : i = (rootsV s2).length := by omega
              have HF2 : Hid (fb = true ↔ cl ∈ rootsV s2) := Lib.hid (by have := HF.out; rwa [List.take_length] at this)
              clear b0 b1 bl HF
              have HER : Hid (∃ b : Bool, (errOf (setV s y cl) == 0) = b ∧ (b = true → fb = true)) := Lib.hid ⟨_, rfl, fun h => HF2.out.2 (HPL.out.1 (by simpa using h))⟩
              obtain ⟨be, hbe, hbf⟩ := HER.out
              have HBF := Lib.hid hbf
              clear hbf HER
              go_upto_region 24 with fail
              go_cut [89] from 65 to 106 (fun v wx => v = .bool false ∧ wx = w5.drewN nd)
              case first =>
                cases be with
                | true =>
                  have hfb := HBF.out rfl
                  subst hfb
                  go_wp2_with fail
                  all_goals go_meet
                  all_goals exact ⟨rfl, rfl⟩
                | false =>
                  go_wp2_with fail
                  all_goals go_meet
                  all_goals exact ⟨rfl, rfl⟩
              case rest =>
                obtain ⟨rfl, rfl⟩ := hcut
                clear hbe
                go_upto_region 26 with fail
                obtain ⟨W6, HW6⟩ : ∃ X, Hid (X = (w5.drewN nd).drew) := ⟨_, Lib.hid rfl⟩
                have hd6 : Below w5.heap.size w5 W6 := by rw [HW6.out]; exact bNext (drawn w5 nd) (bDrew (w5.drewN nd))
                have x1 := (P7.out.next hd6).cell 1
                simp at x1
                have hq7 := (P7.out.next hd6).lt
                have HB6 := Lib.hid (bNext HB5.out hd6)
                have HR6 := Lib.hid (own_cellsAt (own_next2 HROW.out hd6))
                have HXA := Lib.hid (HXR.out.2.2.2.2.1.next HB6.out)
                have hS0 : (fun w' => w'.cell? ⟨q7, 1, none⟩ = some (.slice Aa x.args.length ca)) W6 := x1
                have hq7W : q7 < W6.heap.size := hq7
                clear hd6 x1 hq7
                by_cases hg : errOf (pushV s1 x) = 0
                · have hgb : (errOf (pushV s1 x) != 0) = false := by simpa using hg
                  obtain ⟨pre, hpre⟩ := HPL.out.2.1 hg
                  have hpl : (rootsV s2).length = pre.length + x.args.length := by rw [hpre, List.length_append]
                  have hlow : IntKind.i64.wrap (((rootsV s2).length : Int) - (x.args.length : Int)) = (pre.length : Int) := by rw [IntKind.wrap_i64]; omega
                  have HPRE := Lib.hid hpre
                  clear hpre hg
                  obtain ⟨Ax, cx, hAx, hcut⟩ := slice_tail Ar (rootsV s2).length cr pre.length (by omega) hcr
                  have HAX : Hid (CellsAt W6 Ax x.args) := Lib.hid (tail_cells HR6.out HPRE.out hAx)
                  have hxl3 : (rootsV s2).length - pre.length = x.args.length := by omega
                  rw [hxl3] at hcut
                  clear hpl hxl3 hAx
                  refine wp_region_N (fun w' => w'.cell? ⟨q7, 1, none⟩ = some (.slice Aa x.args.length ca)) (fun _ => true) (by kernel_rfl) ?_
                  rw [← HW6.out]
                  clear HW6
                  refine wpAnyN_take (i := 0) (v := ?v1) rfl (by kernel_rfl) (by kernel_rfl) (by kernel_rfl) (by kernel_rfl) (fun _ _ _ h => h) (Or.inl ⟨by rfl, ?hy1⟩) (by assumption) ?_
                  case hy1 => intro w hSw; have x1 := hSw; go_simp; try with_reducible rfl
                  simp only [Act.put, List.getElem_toArray, List.getElem_cons_zero, List.setIfInBounds_toArray, List.set_cons_zero, List.set_cons_succ]
                  refine wpAnyN_take (i := 1) (v := ?v2) rfl (by kernel_rfl) (by kernel_rfl) (by kernel_rfl) (by kernel_rfl) (fun _ _ _ h => h) (Or.inl ⟨by rfl, ?hy2⟩) (by assumption) ?_
                  case hy2 => intro w hSw; have x1 := hSw; go_simp; try with_reducible rfl
                  simp only [Act.put, List.getElem_toArray, List.getElem_cons_zero, List.getElem_cons_succ, List.setIfInBounds_toArray, List.set_cons_zero, List.set_cons_succ]
                  refine wpAnyN_take (i := 2) (v := ?v3) rfl (by kernel_rfl) (by kernel_rfl) (by kernel_rfl) (by kernel_rfl) (fun _ _ _ h => h) (Or.inl ⟨by rfl, ?hy3⟩) (by assumption) ?_
                  case hy3 => intro w hSw; have x1 := hSw; go_simp; try with_reducible rfl
                  simp only [Act.put, List.getElem_toArray, List.getElem_cons_zero, List.getElem_cons_succ, List.setIfInBounds_toArray, List.set_cons_zero, List.set_cons_succ]
                  refine wpAnyN_take (i := 3) (v := ?v4) rfl (by kernel_rfl) (by kernel_rfl) (by kernel_rfl) (by kernel_rfl) (fun _ _ _ h => h) (Or.inl ⟨by rfl, ?hy4⟩) (by assumption) ?_
                  case hy4 => intro w hSw; have x1 := hSw; go_simp; try with_reducible rfl
                  simp only [Act.put, List.getElem_toArray, List.getElem_cons_zero, List.getElem_cons_succ, List.setIfInBounds_toArray, List.set_cons_zero, List.set_cons_succ]
                  refine wpAnyN_take (i := 4) (v := ?v5) rfl (by kernel_rfl) (by kernel_rfl) (by kernel_rfl) (by kernel_rfl) (fun _ _ _ h => h) (Or.inl ⟨by rfl, ?hy5⟩) (by assumption) ?_
                  case hy5 => intro w hSw; have x1 := hSw; go_simp; try with_reducible rfl
                  simp only [Act.put, List.getElem_toArray, List.getElem_cons_zero, List.getElem_cons_succ, List.setIfInBounds_toArray, List.set_cons_zero, List.set_cons_succ]
                  refine wpAnyN_take (i := 5) (v := ?v6) rfl (by kernel_rfl) (by kernel_rfl) (by kernel_rfl) (by kernel_rfl) (fun _ _ _ h => h) (Or.inl ⟨by rfl, ?hy6⟩) (by assumption) ?_
                  case hy6 => intro w hSw; have x1 := hSw; go_simp; try with_reducible rfl
                  simp only [Act.put, List.getElem_toArray, List.getElem_cons_zero, List.getElem_cons_succ, List.setIfInBounds_toArray, List.set_cons_zero, List.set_cons_succ]
                  refine wpAnyN_take (i := 6) (v := ?v7) rfl (by kernel_rfl) (by kernel_rfl) (by kernel_rfl) (by kernel_rfl) (fun _ _ _ h => h) (Or.inl ⟨by rfl, ?hy7⟩) (by assumption) ?_
                  case hy7 => intro w hSw; have x1 := hSw; go_simp; try with_reducible rfl
                  simp only [Act.put, List.getElem_toArray, List.getElem_cons_zero, List.getElem_cons_succ, List.setIfInBounds_toArray, List.set_cons_zero, List.set_cons_succ]
                  refine wpAnyN_take (i := 7) (v := ?v8) rfl (by kernel_rfl) (by kernel_rfl) (by kernel_rfl) (by kernel_rfl) (fun _ _ _ h => h) (Or.inl ⟨by rfl, ?hy8⟩) (by assumption) ?_
                  case hy8 => intro w hSw; have x1 := hSw; go_simp; try with_reducible rfl
                  simp only [Act.put, List.getElem_toArray, List.getElem_cons_zero, List.getElem_cons_succ, List.setIfInBounds_toArray, List.set_cons_zero, List.set_cons_succ]
                  refine wpAnyN_take (i := 8) (v := ?v9) rfl (by kernel_rfl) (by kernel_rfl) (by kernel_rfl) (by kernel_rfl) (fun _ _ _ h => h) (Or.inl ⟨by rfl, ?hy9⟩) (by assumption) ?_
                  case hy9 => intro w hSw; have x1 := hSw; go_simp; try with_reducible rfl
                  simp only [Act.put, List.getElem_toArray, List.getElem_cons_zero, List.getElem_cons_succ, List.setIfInBounds_toArray, List.set_cons_zero, List.set_cons_succ]
                  refine wpAnyN_take (i := 9) (v := ?v10) rfl (by kernel_rfl) (by kernel_rfl) (by kernel_rfl) (by kernel_rfl) (fun _ _ _ h => h) (Or.inl ⟨by rfl, ?hy10⟩) (by assumption) ?_
                  case hy10 => intro w hSw; have hct := hcut w; go_simp; try with_reducible rfl
                  simp only [Act.put, List.getElem_toArray, List.getElem_cons_zero, List.getElem_cons_succ, List.setIfInBounds_toArray, List.set_cons_zero, List.set_cons_succ]
                  refine wpAnyN_take (i := 10) (v := ?v11) rfl (by kernel_rfl) (by kernel_rfl) (by kernel_rfl) (by kernel_rfl) (fun _ _ _ h => h) (Or.inl ⟨by rfl, ?hy11⟩) (by assumption) ?_
                  case hy11 => intro w hSw; have x1 := hSw; go_simp; try with_reducible rfl
                  simp only [Act.put, List.getElem_toArray, List.getElem_cons_zero, List.getElem_cons_succ, List.setIfInBounds_toArray, List.set_cons_zero, List.set_cons_succ]
                  refine wpAnyN_take (i := 11) (v := ?v12) rfl (by kernel_rfl) (by kernel_rfl) (by kernel_rfl) (by kernel_rfl) (fun _ _ _ h => h) (Or.inl ⟨by rfl, ?hy12⟩) (by assumption) ?_
                  case hy12 => intro w hSw; have x1 := hSw; go_simp; try with_reducible rfl
                  simp only [Act.put, List.getElem_toArray, List.getElem_cons_zero, List.getElem_cons_succ, List.setIfInBounds_toArray, List.set_cons_zero, List.set_cons_succ]
                  refine wpAnyN_one (i := 12) (by kernel_rfl) rfl (fun K hK => ?_)
                  simp only [List.getElem_toArray, List.getElem_cons_zero, List.getElem_cons_succ]
                  go_simp
                  refine (sameCells_any x.args W6 HAX.out HXA.out (by omega)).mono ?_
                  rintro e w7 ⟨rfl, hb7⟩
                  have HB7 := Lib.hid (bNext HB6.out hb7)
                  have hS7 : (fun w' => w'.cell? ⟨q7, 1, none⟩ = some (.slice Aa x.args.length ca)) w7 := (hb7.cell (p := ⟨q7, 1, none⟩) hq7W).trans hS0
                  have hq77 : q7 < w7.heap.size := Nat.lt_of_lt_of_le hq7W hb7.size
                  clear hb7
                  refine hK _ _ (fun _ => hS7) ?_
                  (try simp only [Act.put, List.setIfInBounds_toArray, List.set_cons_zero, List.set_cons_succ])
                  refine wpAnyN_take (i := 13) (v := ?v13) rfl (by kernel_rfl) (by kernel_rfl) (by kernel_rfl) (by kernel_rfl) (fun _ _ _ h => h) (Or.inl ⟨by rfl, ?hy13⟩) (by assumption) ?_
                  case hy13 => intro w hSw; have x1 := hSw; go_simp; try with_reducible rfl
                  simp only [Act.put, List.getElem_toArray, List.getElem_cons_zero, List.getElem_cons_succ, List.setIfInBounds_toArray, List.set_cons_zero, List.set_cons_succ]
                  refine wpAnyN_take (i := 14) (v := ?v14) rfl (by kernel_rfl) (by kernel_rfl) (by kernel_rfl) (by kernel_rfl) (fun _ _ _ h => h) (Or.inl ⟨by rfl, ?hy14⟩) (by assumption) ?_
                  case hy14 => intro w hSw; have x1 := hSw; go_simp; try with_reducible rfl
                  simp only [Act.put, List.getElem_toArray, List.getElem_cons_zero, List.getElem_cons_succ, List.setIfInBounds_toArray, List.set_cons_zero, List.set_cons_succ]
                  refine wpAnyN_one (i := 15) (by kernel_rfl) rfl (fun K hK => ?_)
                  simp only [List.getElem_toArray, List.getElem_cons_zero, List.getElem_cons_succ]
                  go_simp
                  refine (awake_any w7).mono ?_
                  rintro e w8 ⟨rfl, hb8⟩
                  have HB8 := Lib.hid (bNext HB7.out hb8)
                  have hS8 : (fun w' => w'.cell? ⟨q7, 1, none⟩ = some (.slice Aa x.args.length ca)) w8 := (hb8.cell (p := ⟨q7, 1, none⟩) hq77).trans hS7
                  clear hb8
                  refine hK _ _ (fun _ => hS8) ?_
                  (try simp only [Act.put, List.setIfInBounds_toArray, List.set_cons_zero, List.set_cons_succ])
                  refine wpAnyN_one (i := 16) (by kernel_rfl) rfl (fun K hK => ?_)
                  simp only [List.getElem_toArray, List.getElem_cons_zero, List.getElem_cons_succ]
                  go_simp
                  refine hK _ _ (fun _ => hS8) ?_
                  (try simp only [Act.put, List.setIfInBounds_toArray, List.set_cons_zero, List.set_cons_succ])
                  refine wpAnyN_one (i := 17) (by kernel_rfl) rfl (fun K hK => ?_)
                  simp only [List.getElem_toArray, List.getElem_cons_zero, List.getElem_cons_succ]
                  go_simp
                  refine hK _ _ (fun _ => hS8) ?_
                  (try simp only [Act.put, List.setIfInBounds_toArray, List.set_cons_zero, List.set_cons_succ])
                  refine wpAnyN_done (by kernel_rfl) ?_ _
                  go_wp2_with fail
                  go_ret
                  exact ⟨rfl, HB8.out⟩
                · have hgb : (errOf (pushV s1 x) != 0) = true := by simpa using hg
                  clear hg
                  refine wp_region_N (fun w' => w'.cell? ⟨q7, 1, none⟩ = some (.slice Aa x.args.length ca)) (fun _ => true) (by kernel_rfl) ?_
                  rw [← HW6.out]
                  clear HW6
                  refine wpAnyN_take (i := 0) (v := ?v15) rfl (by kernel_rfl) (by kernel_rfl) (by kernel_rfl) (by kernel_rfl) (fun _ _ _ h => h) (Or.inl ⟨by rfl, ?hy15⟩) (by assumption) ?_
                  case hy15 => intro w hSw; have x1 := hSw; go_simp; try with_reducible rfl
                  simp only [Act.put, List.getElem_toArray, List.getElem_cons_zero, List.setIfInBounds_toArray, List.set_cons_zero, List.set_cons_succ]
                  refine wpAnyN_take (i := 1) (v := ?v16) rfl (by kernel_rfl) (by kernel_rfl) (by kernel_rfl) (by kernel_rfl) (fun _ _ _ h => h) (Or.inl ⟨by rfl, ?hy16⟩) (by assumption) ?_
                  case hy16 => intro w hSw; have x1 := hSw; go_simp; try with_reducible rfl
                  simp only [Act.put, List.getElem_toArray, List.getElem_cons_zero, List.getElem_cons_succ, List.setIfInBounds_toArray, List.set_cons_zero, List.set_cons_succ]
                  refine wpAnyN_take (i := 2) (v := ?v17) rfl (by kernel_rfl) (by kernel_rfl) (by kernel_rfl) (by kernel_rfl) (fun _ _ _ h => h) (Or.inl ⟨by rfl, ?hy17⟩) (by assumption) ?_
                  case hy17 => intro w hSw; have x1 := hSw; go_simp; try with_reducible rfl
                  simp only [Act.put, List.getElem_toArray, List.getElem_cons_zero, List.getElem_cons_succ, List.setIfInBounds_toArray, List.set_cons_zero, List.set_cons_succ]
                  refine wpAnyN_take (i := 3) (v := undef) rfl (by kernel_rfl) (by kernel_rfl) (by kernel_rfl) (by kernel_rfl) (fun _ _ _ h => h) (Or.inr ⟨by rfl, rfl⟩) (by assumption) ?_
                  simp only [Act.put, List.getElem_toArray, List.getElem_cons_zero, List.getElem_cons_succ, List.setIfInBounds_toArray, List.set_cons_zero, List.set_cons_succ]
                  refine wpAnyN_take (i := 4) (v := undef) rfl (by kernel_rfl) (by kernel_rfl) (by kernel_rfl) (by kernel_rfl) (fun _ _ _ h => h) (Or.inr ⟨by rfl, rfl⟩) (by assumption) ?_
                  simp only [Act.put, List.getElem_toArray, List.getElem_cons_zero, List.getElem_cons_succ, List.setIfInBounds_toArray, List.set_cons_zero, List.set_cons_succ]
                  refine wpAnyN_take (i := 5) (v := undef) rfl (by kernel_rfl) (by kernel_rfl) (by kernel_rfl) (by kernel_rfl) (fun _ _ _ h => h) (Or.inr ⟨by rfl, rfl⟩) (by assumption) ?_
                  simp only [Act.put, List.getElem_toArray, List.getElem_cons_zero, List.getElem_cons_succ, List.setIfInBounds_toArray, List.set_cons_zero, List.set_cons_succ]
                  refine wpAnyN_take (i := 6) (v := undef) rfl (by kernel_rfl) (by kernel_rfl) (by kernel_rfl) (by kernel_rfl) (fun _ _ _ h => h) (Or.inr ⟨by rfl, rfl⟩) (by assumption) ?_
                  simp only [Act.put, List.getElem_toArray, List.getElem_cons_zero, List.getElem_cons_succ, List.setIfInBounds_toArray, List.set_cons_zero, List.set_cons_succ]
                  refine wpAnyN_take (i := 7) (v := undef) rfl (by kernel_rfl) (by kernel_rfl) (by kernel_rfl) (by kernel_rfl) (fun _ _ _ h => h) (Or.inr ⟨by rfl, rfl⟩) (by assumption) ?_
                  simp only [Act.put, List.getElem_toArray, List.getElem_cons_zero, List.getElem_cons_succ, List.setIfInBounds_toArray, List.set_cons_zero, List.set_cons_succ]
                  refine wpAnyN_take (i := 8) (v := undef) rfl (by kernel_rfl) (by kernel_rfl) (by kernel_rfl) (by kernel_rfl) (fun _ _ _ h => h) (Or.inr ⟨by rfl, rfl⟩) (by assumption) ?_
                  simp only [Act.put, List.getElem_toArray, List.getElem_cons_zero, List.getElem_cons_succ, List.setIfInBounds_toArray, List.set_cons_zero, List.set_cons_succ]
                  refine wpAnyN_take (i := 9) (v := undef) rfl (by kernel_rfl) (by kernel_rfl) (by kernel_rfl) (by kernel_rfl) (fun _ _ _ h => h) (Or.inr ⟨by rfl, rfl⟩) (by assumption) ?_
                  simp only [Act.put, List.getElem_toArray, List.getElem_cons_zero, List.getElem_cons_succ, List.setIfInBounds_toArray, List.set_cons_zero, List.set_cons_succ]
                  refine wpAnyN_take (i := 10) (v := undef) rfl (by kernel_rfl) (by kernel_rfl) (by kernel_rfl) (by kernel_rfl) (fun _ _ _ h => h) (Or.inr ⟨by rfl, rfl⟩) (by assumption) ?_
                  simp only [Act.put, List.getElem_toArray, List.getElem_cons_zero, List.getElem_cons_succ, List.setIfInBounds_toArray, List.set_cons_zero, List.set_cons_succ]
                  refine wpAnyN_take (i := 11) (v := undef) rfl (by kernel_rfl) (by kernel_rfl) (by kernel_rfl) (by kernel_rfl) (fun _ _ _ h => h) (Or.inr ⟨by rfl, rfl⟩) (by assumption) ?_
                  simp only [Act.put, List.getElem_toArray, List.getElem_cons_zero, List.getElem_cons_succ, List.setIfInBounds_toArray, List.set_cons_zero, List.set_cons_succ]
                  refine wpAnyN_take (i := 12) (v := undef) rfl (by kernel_rfl) (by kernel_rfl) (by kernel_rfl) (by kernel_rfl) (fun _ _ _ h => h) (Or.inr ⟨by rfl, rfl⟩) (by assumption) ?_
                  simp only [Act.put, List.getElem_toArray, List.getElem_cons_zero, List.getElem_cons_succ, List.setIfInBounds_toArray, List.set_cons_zero, List.set_cons_succ]
                  refine wpAnyN_take (i := 13) (v := ?v28) rfl (by kernel_rfl) (by kernel_rfl) (by kernel_rfl) (by kernel_rfl) (fun _ _ _ h => h) (Or.inl ⟨by rfl, ?hy28⟩) (by assumption) ?_
                  case hy28 => intro w hSw; have x1 := hSw; go_simp; try with_reducible rfl
                  simp only [Act.put, List.getElem_toArray, List.getElem_cons_zero, List.getElem_cons_succ, List.setIfInBounds_toArray, List.set_cons_zero, List.set_cons_succ]
                  refine wpAnyN_take (i := 14) (v := ?v29) rfl (by kernel_rfl) (by kernel_rfl) (by kernel_rfl) (by kernel_rfl) (fun _ _ _ h => h) (Or.inl ⟨by rfl, ?hy29⟩) (by assumption) ?_
                  case hy29 => intro w hSw; have x1 := hSw; go_simp; try with_reducible rfl
                  simp only [Act.put, List.getElem_toArray, List.getElem_cons_zero, List.getElem_cons_succ, List.setIfInBounds_toArray, List.set_cons_zero, List.set_cons_succ]
                  refine wpAnyN_one (i := 15) (by kernel_rfl) rfl (fun K hK => ?_)
                  simp only [List.getElem_toArray, List.getElem_cons_zero, List.getElem_cons_succ]
                  go_simp
                  refine (awake_any W6).mono ?_
                  rintro e w8 ⟨rfl, hb8⟩
                  have HB8 := Lib.hid (bNext HB6.out hb8)
                  have hS8 : (fun w' => w'.cell? ⟨q7, 1, none⟩ = some (.slice Aa x.args.length ca)) w8 := (hb8.cell (p := ⟨q7, 1, none⟩) hq7W).trans hS0
                  clear hb8
                  refine hK _ _ (fun _ => hS8) ?_
                  (try simp only [Act.put, List.setIfInBounds_toArray, List.set_cons_zero, List.set_cons_succ])
                  refine wpAnyN_one (i := 16) (by kernel_rfl) rfl (fun K hK => ?_)
                  simp only [List.getElem_toArray, List.getElem_cons_zero, List.getElem_cons_succ]
                  go_simp
                  refine hK _ _ (fun _ => hS8) ?_
                  (try simp only [Act.put, List.setIfInBounds_toArray, List.set_cons_zero, List.set_cons_succ])
                  refine wpAnyN_one (i := 17) (by kernel_rfl) rfl (fun K hK => ?_)
                  simp only [List.getElem_toArray, List.getElem_cons_zero, List.getElem_cons_succ]
                  go_simp
                  refine hK _ _ (fun _ => hS8) ?_
                  (try simp only [Act.put, List.setIfInBounds_toArray, List.set_cons_zero, List.set_cons_succ])
                  refine wpAnyN_done (by kernel_rfl) ?_ _
                  go_wp2_with fail
                  go_ret
                  exact ⟨rfl, HB8.out⟩

end Go.Proofs.Ytpkpffnabcgcbaa
