/-
  Walk: the reference's Replace.
-/
import Derived.Test.YtcagaaacfcpoeaaCw
namespace Go.Proofs.Ytcagaaacfcpoeaa
open Go.RowKit

theorem wrap_small {n : Int} (h1 : 0 ≤ n) (h2 : n ≤ 9223372036854775807) : IntKind.i64.wrap n = n := by
  unfold IntKind.wrap
  simp only [show IntKind.i64.bits = 64 from rfl, show IntKind.i64.signed = true from rfl, Bool.true_and]
  split <;> simp_all <;> omega
/-- what Replace returns: the term, the error -/
def replV (t : Tm) (v : Int) (y : Tm) : Tm × Int :=
  if (validT t && decide (0 ≤ v ∧ v ≤ 1099511627776) && validT y) = false then (zeroT, 1) else if 2000 < cnt t + occT v t * (cnt y - 1) then (zeroT, 2) else (putT v y t, 0)
theorem replV_bad {t y : Tm} {v : Int} (h : (validT t && decide (0 ≤ v ∧ v ≤ 1099511627776) && validT y) = false) : replV t v y = (zeroT, 1) := if_pos h
theorem replV_long {t y : Tm} {v : Int} (h : (validT t && decide (0 ≤ v ∧ v ≤ 1099511627776) && validT y) = true) (h2 : 2000 < cnt t + occT v t * (cnt y - 1)) : replV t v y = (zeroT, 2) := by
  unfold replV; rw [if_neg (fun e => by rw [h] at e; cases e), if_pos h2]
theorem replV_ok {t y : Tm} {v : Int} (h : (validT t && decide (0 ≤ v ∧ v ≤ 1099511627776) && validT y) = true) (h2 : ¬ 2000 < cnt t + occT v t * (cnt y - 1)) : replV t v y = (putT v y t, 0) := by
  unfold replV; rw [if_neg (fun e => by rw [h] at e; cases e), if_neg h2]
def ReplR (w : World) (r : Tm × Int) (e : Ending) (w' : World) : Prop := ∃ A c, e = .returned (.tuple #[Tm.v r.1 A c, .int .i64 r.2]) ∧ ArgsAt w' (Btw w.heap.size w'.heap.size) A r.1.args
set_option maxRecDepth 100000 in
set_option maxHeartbeats 4000000 in
theorem replace10_any (t : Tm) (A : Option Addr) (c : Nat) (vv : Int) (y : Tm) (Ay : Option Addr) (cy : Nat) (w : World) (ha : ArgsAt w (Old w.heap.size) A t.args) (hay : ArgsAt w (Old w.heap.size) Ay y.args) :
    Calls Try.prog 10 #[t.v A c, .int .i64 vv, y.v Ay cy] w fun e w' => ReplR w (replV t vv y) e w' ∧ Below w.heap.size w w' := by
  have HA := Lib.hid ha
  have HAY := Lib.hid hay
  clear ha hay
  obtain ⟨W, HW⟩ : ∃ X, Hid (X = ((w.alloc (.cells #[.int .i64 t.kind, .int .i64 t.n, .string t.name, .slice A t.args.length c] 24)).alloc (.cells #[.int .i64 y.kind, .int .i64 y.n, .string y.name, .slice Ay y.args.length cy] 24)).alloc (.cells #[.int .i64 0, .int .i64 0, .string { data := #[] }, .slice none 0 0] 24)) := ⟨_, rfl⟩
  have hbW : Below w.heap.size w W := by rw [HW.out]; exact ((bAlloc w _).alloc (by simp) _).alloc (by simp; omega) _
  have hk0 : Blk W w.heap.size 24 #[.int .i64 t.kind, .int .i64 t.n, .string t.name, .slice A t.args.length c] := by rw [HW.out]; exact ((Blk.new w _ _).alloc _).alloc _
  have hk1 : Blk W (w.heap.size + 1) 24 #[.int .i64 y.kind, .int .i64 y.n, .string y.name, .slice Ay y.args.length cy] := by
    rw [HW.out]
    have h1 := (Blk.new (w.alloc (.cells #[.int .i64 t.kind, .int .i64 t.n, .string t.name, .slice A t.args.length c] 24)) 24 #[.int .i64 y.kind, .int .i64 y.n, .string y.name, .slice Ay y.args.length cy]).alloc (.cells #[.int .i64 0, .int .i64 0, .string { data := #[] }, .slice none 0 0] 24)
    rw [World.size_alloc] at h1
    exact h1
  have hk2 : Blk W (w.heap.size + 2) 24 #[.int .i64 0, .int .i64 0, .string { data := #[] }, .slice none 0 0] := by
    rw [HW.out]
    have h1 := Blk.new ((w.alloc (.cells #[.int .i64 t.kind, .int .i64 t.n, .string t.name, .slice A t.args.length c] 24)).alloc (.cells #[.int .i64 y.kind, .int .i64 y.n, .string y.name, .slice Ay y.args.length cy] 24)) 24 #[.int .i64 0, .int .i64 0, .string { data := #[] }, .slice none 0 0]
    rw [World.size_alloc, World.size_alloc] at h1
    exact h1
  have HB0 := Lib.hid hbW
  have HK0 := Lib.hid hk0
  have HK1 := Lib.hid hk1
  have HK2 := Lib.hid hk2
  have e0 := hk0.cell 0
  have e1 := hk0.cell 1
  have e2 := hk0.cell 2
  have e3 := hk0.cell 3
  have el := hk0.lt
  simp at e0 e1 e2 e3
  clear hbW hk0 hk1 hk2
  go_enter Try.func10, Try.ntmps10
  go_upto_region 1 with fail
  rw [← HW.out]
  clear HW
  go_wp2_with fail
  refine (valid03_any t A c W (ArgsNext HA.out HB0.out)).mono ?_
  rintro e w1 ⟨rfl, hb1⟩
  have HB1 := Lib.hid (bNext HB0.out hb1)
  have HW1 := Lib.hid hb1
  clear hb1 e0 e1 e2 e3 el
  cases hv : validT t
  · have HE := Lib.hid (replV_bad (t := t) (v := vv) (y := y) (by rw [hv]; rfl))
    clear hv
    have hw1 := HW1.out
    have HR1 := Lib.hid (BlkNext HK2.out hw1)
    have HBE := HB1
    have r0 := HR1.out.cell 0
    have f0 := HR1.out.frozen 0
    have r1 := HR1.out.cell 1
    have f1 := HR1.out.frozen 1
    have r2 := HR1.out.cell 2
    have f2 := HR1.out.frozen 2
    have r3 := HR1.out.cell 3
    have f3 := HR1.out.frozen 3
    have rl := HR1.out.lt
    simp at r0 r1 r2 r3
    go_wp2_with fail
    refine bodyPost_ret (v := .tuple #[Tm.v zeroT none 0, .int .i64 1]) (by simp only [results, Try.results10, Tm.kind, Tm.n, Tm.name, Tm.args]; go_simp; exact ⟨rfl, rfl, rfl, rfl⟩) rfl ⟨by rw [HE.out]; exact ⟨none, 0, rfl, .nil _⟩, ?_⟩
    repeat first | exact HBE.out | refine Below.setCell ?_ (by simp; omega) _
  · have HV := Lib.hid hv
    clear hv
    by_cases hlo : vv < 0
    · have HE := Lib.hid (replV_bad (t := t) (v := vv) (y := y) (by rw [show decide (0 ≤ vv ∧ vv ≤ 1099511627776) = false by simp; omega, Bool.and_false, Bool.false_and]))
      have hw1 := HW1.out
      have HR1 := Lib.hid (BlkNext HK2.out hw1)
      have HBE := HB1
      have r0 := HR1.out.cell 0
      have f0 := HR1.out.frozen 0
      have r1 := HR1.out.cell 1
      have f1 := HR1.out.frozen 1
      have r2 := HR1.out.cell 2
      have f2 := HR1.out.frozen 2
      have r3 := HR1.out.cell 3
      have f3 := HR1.out.frozen 3
      have rl := HR1.out.lt
      simp at r0 r1 r2 r3
      go_wp2_with fail
      refine bodyPost_ret (v := .tuple #[Tm.v zeroT none 0, .int .i64 1]) (by simp only [results, Try.results10, Tm.kind, Tm.n, Tm.name, Tm.args]; go_simp; exact ⟨rfl, rfl, rfl, rfl⟩) rfl ⟨by rw [HE.out]; exact ⟨none, 0, rfl, .nil _⟩, ?_⟩
      repeat first | exact HBE.out | refine Below.setCell ?_ (by simp; omega) _
    · by_cases hhi : 1099511627776 < vv
      · have HE := Lib.hid (replV_bad (t := t) (v := vv) (y := y) (by rw [show decide (0 ≤ vv ∧ vv ≤ 1099511627776) = false by simp; omega, Bool.and_false, Bool.false_and]))
        have hw1 := HW1.out
        have HR1 := Lib.hid (BlkNext HK2.out hw1)
        have HBE := HB1
        have r0 := HR1.out.cell 0
        have f0 := HR1.out.frozen 0
        have r1 := HR1.out.cell 1
        have f1 := HR1.out.frozen 1
        have r2 := HR1.out.cell 2
        have f2 := HR1.out.frozen 2
        have r3 := HR1.out.cell 3
        have f3 := HR1.out.frozen 3
        have rl := HR1.out.lt
        simp at r0 r1 r2 r3
        go_wp2_with fail
        refine bodyPost_ret (v := .tuple #[Tm.v zeroT none 0, .int .i64 1]) (by simp only [results, Try.results10, Tm.kind, Tm.n, Tm.name, Tm.args]; go_simp; exact ⟨rfl, rfl, rfl, rfl⟩) rfl ⟨by rw [HE.out]; exact ⟨none, 0, rfl, .nil _⟩, ?_⟩
        repeat first | exact HBE.out | refine Below.setCell ?_ (by simp; omega) _
      · have HVV := Lib.hid (show decide (0 ≤ vv ∧ vv ≤ 1099511627776) = true by simp; omega)
        have h1 := BlkNext HK1.out HW1.out
        have b0 := h1.cell 0
        have b1 := h1.cell 1
        have b2 := h1.cell 2
        have b3 := h1.cell 3
        have bl := h1.lt
        simp at b0 b1 b2 b3
        clear h1
        have d1 : decide (vv < 0) = false := by simp; omega
        have d2 : decide (1099511627776 < vv) = false := by simp; omega
        clear hlo hhi
        go_wp2_with fail
        refine (valid03_any y Ay cy w1 (ArgsNext HAY.out HB1.out)).mono ?_
        rintro e w2 ⟨rfl, hb2⟩
        have HB2 := Lib.hid (bNext HB1.out hb2)
        have HW2 := Lib.hid (bNext HW1.out hb2)
        clear hb2 b0 b1 b2 b3 bl
        cases hvy : validT y
        · have HE := Lib.hid (replV_bad (t := t) (v := vv) (y := y) (by rw [hvy, Bool.and_false]))
          clear hvy
          have hw2 := HW2.out
          have HR1 := Lib.hid (BlkNext HK2.out hw2)
          have HBE := HB2
          have r0 := HR1.out.cell 0
          have f0 := HR1.out.frozen 0
          have r1 := HR1.out.cell 1
          have f1 := HR1.out.frozen 1
          have r2 := HR1.out.cell 2
          have f2 := HR1.out.frozen 2
          have r3 := HR1.out.cell 3
          have f3 := HR1.out.frozen 3
          have rl := HR1.out.lt
          simp at r0 r1 r2 r3
          go_wp2_with fail
          refine bodyPost_ret (v := .tuple #[Tm.v zeroT none 0, .int .i64 1]) (by simp only [results, Try.results10, Tm.kind, Tm.n, Tm.name, Tm.args]; go_simp; exact ⟨rfl, rfl, rfl, rfl⟩) rfl ⟨by rw [HE.out]; exact ⟨none, 0, rfl, .nil _⟩, ?_⟩
          repeat first | exact HBE.out | refine Below.setCell ?_ (by simp; omega) _
        · have HOKE := Lib.hid (show (validT t && decide (0 ≤ vv ∧ vv ≤ 1099511627776) && validT y) = true by rw [HV.out, HVV.out, hvy]; rfl)
          have HOK := Lib.hid (validT_ok HV.out)
          have HOY := Lib.hid (validT_ok hvy)
          clear hvy
          go_upto_region 3 with fail
          obtain ⟨D, hD⟩ : ∃ X, Hid (X = w2.drew) := ⟨_, rfl⟩
          have hd : Below w2.heap.size w2 D := by rw [hD.out]; exact bDrewN (Below.refl _ _) 1
          have hS0 : Below W.heap.size W D := bNext HW2.out hd
          refine wp_region_N (fun w' => Below W.heap.size W w') (fun _ => true) (by kernel_rfl) ?_
          rw [← hD.out]
          have HBD := Lib.hid (bNext HB2.out hd)
          clear hD hd
          refine wpAnyN_take (i := 0) (v := ?v1) rfl (by kernel_rfl) (by kernel_rfl) (by kernel_rfl) (by kernel_rfl) (fun _ _ _ h => h) (Or.inl ⟨by rfl, ?hy1⟩) (by assumption) ?_
          case hy1 => intro w hSw; have h := BlkNext HK0.out hSw; have e0 := h.cell 0; have e1 := h.cell 1; have e2 := h.cell 2; have e3 := h.cell 3; have el := h.lt; simp at e0 e1 e2 e3; clear h; go_simp; try with_reducible rfl
          simp only [Act.put, List.getElem_toArray, List.getElem_cons_zero, List.setIfInBounds_toArray, List.set_cons_zero, List.set_cons_succ]
          refine wpAnyN_take (i := 2) (v := ?v2) rfl (by kernel_rfl) (by kernel_rfl) (by kernel_rfl) (by kernel_rfl) (fun _ _ _ h => h) (Or.inl ⟨by rfl, ?hy2⟩) (by assumption) ?_
          case hy2 => intro w hSw; have h := BlkNext HK0.out hSw; have e0 := h.cell 0; have e1 := h.cell 1; have e2 := h.cell 2; have e3 := h.cell 3; have el := h.lt; simp at e0 e1 e2 e3; clear h; go_simp; try with_reducible rfl
          simp only [Act.put, List.getElem_toArray, List.getElem_cons_zero, List.getElem_cons_succ, List.setIfInBounds_toArray, List.set_cons_zero, List.set_cons_succ]
          refine wpAnyN_take (i := 3) (v := ?v3) rfl (by kernel_rfl) (by kernel_rfl) (by kernel_rfl) (by kernel_rfl) (fun _ _ _ h => h) (Or.inl ⟨by rfl, ?hy3⟩) (by assumption) ?_
          case hy3 => intro w hSw; (try dsimp only at hSw); go_simp; try with_reducible rfl
          simp only [Act.put, List.getElem_toArray, List.getElem_cons_zero, List.getElem_cons_succ, List.setIfInBounds_toArray, List.set_cons_zero, List.set_cons_succ]
          refine wpAnyN_take (i := 5) (v := ?v4) rfl (by kernel_rfl) (by kernel_rfl) (by kernel_rfl) (by kernel_rfl) (fun _ _ _ h => h) (Or.inl ⟨by rfl, ?hy4⟩) (by assumption) ?_
          case hy4 => intro w hSw; have h := BlkNext HK1.out hSw; have b0 := h.cell 0; have b1 := h.cell 1; have b2 := h.cell 2; have b3 := h.cell 3; have bl := h.lt; simp at b0 b1 b2 b3; clear h; go_simp; try with_reducible rfl
          simp only [Act.put, List.getElem_toArray, List.getElem_cons_zero, List.getElem_cons_succ, List.setIfInBounds_toArray, List.set_cons_zero, List.set_cons_succ]
          refine wpAnyN_one (i := 1) (by kernel_rfl) rfl (fun K hK => ?_)
          simp only [List.getElem_toArray, List.getElem_cons_zero, List.getElem_cons_succ]
          go_simp
          refine (size_any t A c D (ArgsNext HA.out HBD.out)).mono ?_
          rintro e w3 ⟨rfl, hb3⟩
          have HB3 := Lib.hid (bNext HBD.out hb3)
          have hk3 : Below W.heap.size W w3 := bNext hS0 hb3
          refine hK _ _ (fun _ => hk3) ?_
          clear hb3 hS0
          rw [show min (cnt t : Int) 2001 = (cnt t : Int) by have := HOK.out.2; omega]
          (try simp only [Act.put, List.setIfInBounds_toArray, List.set_cons_zero, List.set_cons_succ])
          refine wpAnyN_one (i := 4) (by kernel_rfl) rfl (fun K hK => ?_)
          simp only [List.getElem_toArray, List.getElem_cons_zero, List.getElem_cons_succ]
          go_simp
          refine (occ27_any vv _ t (Nat.lt_succ_self _) (by have := HOK.out.2; omega) A c w3 (ArgsNext HA.out HB3.out)).mono ?_
          rintro e w4 ⟨rfl, hb4⟩
          have HB4 := Lib.hid (bNext HB3.out hb4)
          have hk4 : Below W.heap.size W w4 := bNext hk3 hb4
          refine hK _ _ (fun _ => hk4) ?_
          clear hb4 hk3
          (try simp only [Act.put, List.setIfInBounds_toArray, List.set_cons_zero, List.set_cons_succ])
          refine wpAnyN_one (i := 6) (by kernel_rfl) rfl (fun K hK => ?_)
          simp only [List.getElem_toArray, List.getElem_cons_zero, List.getElem_cons_succ]
          go_simp
          refine (size_any y Ay cy w4 (ArgsNext HAY.out HB4.out)).mono ?_
          rintro e w5 ⟨rfl, hb5⟩
          have HB5 := Lib.hid (bNext HB4.out hb5)
          have hk5 : Below W.heap.size W w5 := bNext hk4 hb5
          refine hK _ _ (fun _ => hk5) ?_
          clear hb5 hk4
          rw [show min (cnt y : Int) 2001 = (cnt y : Int) by have := HOY.out.2; omega]
          (try simp only [Act.put, List.setIfInBounds_toArray, List.set_cons_zero, List.set_cons_succ])
          obtain ⟨o, ho⟩ : ∃ o, occT vv t = o := ⟨_, rfl⟩
          obtain ⟨d, hd⟩ : ∃ d, cnt y - 1 = d := ⟨_, rfl⟩
          have hyp := cnt_pos y
          have hyd : (cnt y : Int) = (d : Int) + 1 := by omega
          rw [ho, hyd]
          obtain ⟨p, hp⟩ : ∃ p, o * d = p := ⟨_, rfl⟩
          have hol : o ≤ 2000 := by have := occ_le vv t; have := HOK.out.2; omega
          have hdl : d ≤ 2000 := by have := HOY.out.2; omega
          have hpl : p ≤ 4000000 := by rw [← hp]; exact Nat.mul_le_mul hol hdl
          have hpz : (o : Int) * (d : Int) = (p : Int) := by rw [← hp]; simp
          have hnl := HOK.out.2
          have HP := Lib.hid (show cnt t + occT vv t * (cnt y - 1) = cnt t + p by rw [ho, hd, hp])
          clear ho hd hp hyp hyd
          have W1 := Lib.hid (wrap_small (n := (d : Int)) (by omega) (by omega))
          have W2 := Lib.hid (wrap_small (n := (p : Int)) (by omega) (by omega))
          have W3 := Lib.hid (wrap_small (n := (cnt t : Int) + (p : Int)) (by omega) (by omega))
          have HPZ := Lib.hid hpz
          have HNL := Lib.hid hnl
          have HPL := Lib.hid hpl
          clear hpz hnl hpl
          refine wpAnyN_one (i := 7) (by kernel_rfl) rfl (fun K hK => ?_)
          simp only [List.getElem_toArray, List.getElem_cons_zero, List.getElem_cons_succ]
          go_simp
          rw [W1.out]
          refine hK _ _ (fun _ => hk5) ?_
          (try simp only [Act.put, List.setIfInBounds_toArray, List.set_cons_zero, List.set_cons_succ])
          refine wpAnyN_one (i := 8) (by kernel_rfl) rfl (fun K hK => ?_)
          simp only [List.getElem_toArray, List.getElem_cons_zero, List.getElem_cons_succ]
          go_simp
          rw [HPZ.out, W2.out]
          refine hK _ _ (fun _ => hk5) ?_
          (try simp only [Act.put, List.setIfInBounds_toArray, List.set_cons_zero, List.set_cons_succ])
          refine wpAnyN_one (i := 9) (by kernel_rfl) rfl (fun K hK => ?_)
          simp only [List.getElem_toArray, List.getElem_cons_zero, List.getElem_cons_succ]
          go_simp
          rw [W3.out]
          refine hK _ _ (fun _ => hk5) ?_
          obtain ⟨u, hu⟩ : ∃ u : Nat, cnt t + p = u := ⟨_, rfl⟩
          have HU := Lib.hid hu
          rw [show (cnt t : Int) + (p : Int) = (u : Int) by omega]
          clear hu
          (try simp only [Act.put, List.setIfInBounds_toArray, List.set_cons_zero, List.set_cons_succ])
          refine wpAnyN_take (i := 10) (v := ?v5) rfl (by kernel_rfl) (by kernel_rfl) (by kernel_rfl) (by kernel_rfl) (fun _ _ _ h => h) (Or.inl ⟨by rfl, ?hy5⟩) (by assumption) ?_
          case hy5 => intro w hSw; (try dsimp only at hSw); go_simp; try with_reducible rfl
          simp only [Act.put, List.getElem_toArray, List.getElem_cons_zero, List.getElem_cons_succ, List.setIfInBounds_toArray, List.set_cons_zero, List.set_cons_succ]
          refine wpAnyN_done (by kernel_rfl) ?_ _
          have HW5 := Lib.hid hk5
          clear hk5
          by_cases hbig : 2000 < u
          · have HE := Lib.hid (replV_long HOKE.out (by rw [HP.out, HU.out]; exact hbig))
            have hw5 := HW5.out
            have HR1 := Lib.hid (BlkNext HK2.out hw5)
            have HBE := HB5
            have r0 := HR1.out.cell 0
            have f0 := HR1.out.frozen 0
            have r1 := HR1.out.cell 1
            have f1 := HR1.out.frozen 1
            have r2 := HR1.out.cell 2
            have f2 := HR1.out.frozen 2
            have r3 := HR1.out.cell 3
            have f3 := HR1.out.frozen 3
            have rl := HR1.out.lt
            simp at r0 r1 r2 r3
            go_wp2_with fail
            refine bodyPost_ret (v := .tuple #[Tm.v zeroT none 0, .int .i64 2]) (by simp only [results, Try.results10, Tm.kind, Tm.n, Tm.name, Tm.args]; go_simp; exact ⟨rfl, rfl, rfl, rfl⟩) rfl ⟨by rw [HE.out]; exact ⟨none, 0, rfl, .nil _⟩, ?_⟩
            repeat first | exact HBE.out | refine Below.setCell ?_ (by simp; omega) _
          · have HE := Lib.hid (replV_ok HOKE.out (by rw [HP.out, HU.out]; exact hbig))
            have h0 := BlkNext HK0.out HW5.out
            have e0 := h0.cell 0
            have e1 := h0.cell 1
            have e2 := h0.cell 2
            have e3 := h0.cell 3
            have el := h0.lt
            have h1 := BlkNext HK1.out HW5.out
            have b0 := h1.cell 0
            have b1 := h1.cell 1
            have b2 := h1.cell 2
            have b3 := h1.cell 3
            have bl := h1.lt
            simp at e0 e1 e2 e3 b0 b1 b2 b3
            clear h0 h1
            go_wp2_with fail
            refine (put28_any vv y (by have := HOY.out.2; omega) _ t (Nat.lt_succ_self _) (by have := HOK.out.2; omega) A c Ay cy w5 (ArgsNext HA.out HB5.out) (ArgsNext HAY.out HB5.out)).mono ?_
            rintro e w6 ⟨⟨A6, c6, rfl, ha6⟩, hb6⟩
            have HB6 := Lib.hid (bNext HB5.out hb6)
            have HR6 := Lib.hid (BlkNext (BlkNext HK2.out HW5.out) hb6)
            have hz5 := HB5.out.size
            have hl5 := (BlkNext HK2.out HW5.out).lt
            have HA6 := Lib.hid ha6
            clear hb6 ha6 e0 e1 e2 e3 el b0 b1 b2 b3 bl
            have r0 := HR6.out.cell 0
            have f0 := HR6.out.frozen 0
            have r1 := HR6.out.cell 1
            have f1 := HR6.out.frozen 1
            have r2 := HR6.out.cell 2
            have f2 := HR6.out.frozen 2
            have r3 := HR6.out.cell 3
            have f3 := HR6.out.frozen 3
            have rl := HR6.out.lt
            simp at r0 r1 r2 r3
            go_wp2_with fail
            refine bodyPost_ret (v := .tuple #[Tm.v (putT vv y t) A6 c6, .int .i64 0]) (by simp only [results, Try.results10]; go_simp) rfl ⟨?_, ?_⟩
            · rw [HE.out]
              refine ⟨A6, c6, rfl, ?_⟩
              refine HA6.out.keep (fun b hb => ?_) (fun b hb => ⟨by have := hb.1; omega, by have := hb.2; simpa using this⟩)
              repeat rw [heap_setCell_other _ _ _ _ (by have := hb.1; simp; omega)]
            · repeat refine Below.setCell ?_ (by simp; omega) _
              exact HB6.out
end Go.Proofs.Ytcagaaacfcpoeaa
