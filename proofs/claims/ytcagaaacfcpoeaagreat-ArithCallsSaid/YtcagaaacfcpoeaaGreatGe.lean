/-
  Walk: the reference's Call.
-/
import Derived.Test.YtcagaaacfcpoeaaGreatGd
namespace Go.Proofs.YtcagaaacfcpoeaaGreat
open Go.RowKit

/-- a copy with a row of its own -/
def OwnC (w : World) (t : Tm) (e : Ending) (w' : World) : Prop := ∃ v rs B, e = .returned (.agg #[.int .i64 t.kind, .int .i64 t.n, .string t.name, v]) ∧ rs.map (·.1) = t.args ∧ w.heap.size ≤ B ∧ Mk w' B v rs
set_option maxHeartbeats 4000000 in
theorem own39_any (t : Tm) (A : Option Addr) (c : Nat) (w : World) (hv : validT t = true) (ha : ArgsAt w (Old w.heap.size) A t.args) :
    Calls Tryz.prog 39 #[t.v A c] w fun e w' => OwnC w t e w' ∧ Below w.heap.size w w' := by
  have HOK := Lib.hid (validT_ok hv)
  have HVV := Lib.hid hv
  clear hv
  obtain ⟨W, HW⟩ : ∃ X, Hid (X = (w.alloc (.cells #[.int .i64 t.kind, .int .i64 t.n, .string t.name, .slice A t.args.length c] 24)).alloc (.cells #[.int .i64 0, .int .i64 0, .string { data := #[] }, .slice none 0 0] 24)) := ⟨_, rfl⟩
  have hbW : Below w.heap.size w W := by rw [HW.out]; exact (bAlloc w _).alloc (by simp) _
  obtain ⟨q, hq⟩ : ∃ q, Hid (q = w.heap.size) := ⟨_, rfl⟩
  obtain ⟨r, hr⟩ : ∃ q, Hid (q = w.heap.size + 1) := ⟨_, rfl⟩
  have hk0 : Blk W q 24 #[.int .i64 t.kind, .int .i64 t.n, .string t.name, .slice A t.args.length c] := by rw [HW.out, hq.out]; exact (Blk.new w _ _).alloc _
  have hk1 : Blk W r 24 #[.int .i64 0, .int .i64 0, .string { data := #[] }, .slice none 0 0] := by
    rw [HW.out, hr.out]
    have h1 := Blk.new (w.alloc (.cells #[.int .i64 t.kind, .int .i64 t.n, .string t.name, .slice A t.args.length c] 24)) 24 #[.int .i64 0, .int .i64 0, .string { data := #[] }, .slice none 0 0]
    rw [World.size_alloc] at h1
    exact h1
  have HA := Lib.hid ha
  have HB := Lib.hid hbW
  have HK := Lib.hid hk0
  have HR := Lib.hid hk1
  have hqr : q ≠ r := by rw [hq.out, hr.out]; omega
  have hqw : w.heap.size ≤ q := by rw [hq.out]; exact Nat.le_refl _
  have hrw : w.heap.size ≤ r := by rw [hr.out]; omega
  have e0 := hk0.cell 0
  have e1 := hk0.cell 1
  have e2 := hk0.cell 2
  have e3 := hk0.cell 3
  have el := hk0.lt
  simp at e0 e1 e2 e3
  clear ha hbW hk0 hk1
  go_enter Tryz.func39, Tryz.ntmps39
  go_upto_region 1 with fail
  rw [← HW.out, ← hr.out, ← hq.out]
  clear HW
  go_wp2_with fail
  refine (valid03_any t A c W (ArgsNext HA.out HB.out)).mono ?_
  rw [HVV.out]
  rintro e w1 ⟨rfl, hb1⟩
  have HB1 := Lib.hid (bNext HB.out hb1)
  have HR1 := Lib.hid (BlkNext HR.out hb1)
  have hk1 := BlkNext HK.out hb1
  clear e0 e1 e2 e3 el hb1
  have e0 := hk1.cell 0
  have e1 := hk1.cell 1
  have e2 := hk1.cell 2
  have e3 := hk1.cell 3
  have el := hk1.lt
  simp at e0 e1 e2 e3
  clear hk1
  go_wp2_with fail
  refine (copied_any _ t (Nat.lt_succ_self _) (by have := HOK.out.2; omega) A c w1 (ArgsNext HA.out HB1.out)).mono ?_
  rintro e w2 ⟨⟨v, rs, rfl, hrs, hm⟩, hb2⟩
  rw [mapT_idL] at hrs
  have HRS := Lib.hid hrs
  have HM := Lib.hid hm
  have HB2 := Lib.hid (bNext HB1.out hb2)
  have HR2 := Lib.hid (BlkNext HR1.out hb2)
  have hz1 := HB1.out.size
  have hrl1 := HR1.out.lt
  clear hb2 hrs hm e0 e1 e2 e3 el
  obtain ⟨Av, cv, rfl⟩ := HM.out.form
  have r0 := HR2.out.cell 0
  have f0 := HR2.out.frozen 0
  have r1 := HR2.out.cell 1
  have f1 := HR2.out.frozen 1
  have r2 := HR2.out.cell 2
  have f2 := HR2.out.frozen 2
  have r3 := HR2.out.cell 3
  have f3 := HR2.out.frozen 3
  have rl := HR2.out.lt
  simp at r0 r1 r2 r3
  go_wp2_with fail
  refine bodyPost_ret (v := .agg #[.int .i64 t.kind, .int .i64 t.n, .string t.name, .slice Av rs.length cv]) (by simp only [results, Tryz.results39]; go_simp) rfl ⟨⟨_, rs, w1.heap.size, rfl, HRS.out, hz1, HM.out.stay (fun b hb hb2 => ?_) (by simp)⟩, ?_⟩
  · repeat rw [heap_setCell_other _ _ _ _ (by simp; omega)]
  · repeat refine Below.setCell ?_ hrw _
    exact HB2.out
/-- the answers of the reference -/
theorem callV_is {s : ByteArray} {x y : Tm} (hg : (validT (.mk 3 0 s [x, y]) && sameT (.mk 3 0 s [x, y]) (canonT (.mk 3 0 s [x, y]))) = true) (h2 : hasS s 2 = true) (his : (s.toList == [105, 115]) = true) :
    callV (.mk 3 0 s [x, y]) = match valT y with | .ok n => ([.mk 3 0 s [intC n, y]], zeroT, 0) | .error b => ([], b, 8) := by
  have hs : s = { data := #[105, 115] } := by
    have h1 : s.toList = [105, 115] := by simpa using his
    exact bytes_inj (by rw [h1]; simp [ByteArray.toList_eq])
  subst hs
  rw [callV_two hg h2]
  cases hy : valT y with
  | error b => rw [callL_isE his hy]
  | ok n =>
    rw [callL_is his hy]
    have hcl : validT (.mk 3 0 { data := #[105, 115] } [intC n, y]) = true := by
      simp only [Bool.and_eq_true] at hg
      have h3 := validT_ok hg.1
      have h4 := h3.1
      rw [okT_mk] at h4
      simp only [okT.go, Bool.and_eq_true] at h4
      have h5 := h3.2
      rw [cnt_mk] at h5
      simp only [cnt.go] at h5
      have h6 := cnt_pos x
      unfold validT
      rw [Bool.and_eq_true, decide_eq_true_eq, cnt_mk, okT_mk]
      refine ⟨by simp only [cnt.go, cnt_mk]; omega, ?_⟩
      simp only [okT.go, h4.2.2.1]
      simp [nodeB, okT_mk, okT.go, ByteArray.size]
    simp only [structC, cloneT]
    rw [if_neg (by simp), if_pos hcl]
theorem callV_cmp {s : ByteArray} {x y : Tm} (hg : (validT (.mk 3 0 s [x, y]) && sameT (.mk 3 0 s [x, y]) (canonT (.mk 3 0 s [x, y]))) = true) (h2 : hasS s 2 = true) (his : (s.toList == [105, 115]) = false) :
    callV (.mk 3 0 s [x, y]) = match valT x with | .error b => ([], b, 8) | .ok m => match valT y with | .error b => ([], b, 8) | .ok n => if cmpB s m n = true then ([.mk 3 0 s [x, y]], zeroT, 0) else ([], zeroT, 0) := by
  rw [callV_two hg h2]
  simp only [Bool.and_eq_true] at hg
  cases hx : valT x with
  | error b => rw [callL_cmpE his (b := b) (by simp only [valT.go, hx])]
  | ok m =>
    cases hy : valT y with
    | error b => rw [callL_cmpE his (b := b) (by simp only [valT.go, hx, hy])]
    | ok n =>
      rw [callL_cmp his (a := m) (b := n) (by simp only [valT.go, hx, hy])]
      simp only [cloneT]
      rw [if_pos hg.1]
      cases cmpB s m n <;> rfl
theorem mk_two {w : World} {B rb cp : Nat} {x y : Tm} {Ax Ay : Option Addr} {cx cy : Nat} (h : Mk w B (.slice (some ⟨rb, 0, none⟩) 2 cp) [(x, Ax, cx), (y, Ay, cy)]) :
    (w.cell? ⟨rb, 0, none⟩ = some (.int .i64 x.kind) ∧ w.cell? ⟨rb, 1, none⟩ = some (.int .i64 x.n) ∧ w.cell? ⟨rb, 2, none⟩ = some (.string x.name) ∧ w.cell? ⟨rb, 3, none⟩ = some (.slice Ax x.args.length cx)) ∧
    (w.cell? ⟨rb, 4, none⟩ = some (.int .i64 y.kind) ∧ w.cell? ⟨rb, 5, none⟩ = some (.int .i64 y.n) ∧ w.cell? ⟨rb, 6, none⟩ = some (.string y.name) ∧ w.cell? ⟨rb, 7, none⟩ = some (.slice Ay y.args.length cy)) ∧
    (∀ j, w.frozen? ⟨rb, j, none⟩ = false) ∧ B ≤ rb ∧ rb < w.heap.size := by
  have h1 := h.own.lt rb rfl
  have hc := fun j hj => h.own.cellAt (g := rb) (cap := cp) j hj
  have hl : [(x, Ax, cx), (y, Ay, cy)].length * 4 = 8 := rfl
  refine ⟨⟨hc 0 (by omega), hc 1 (by omega), hc 2 (by omega), hc 3 (by omega)⟩, ⟨hc 4 (by omega), hc 5 (by omega), hc 6 (by omega), hc 7 (by omega)⟩, fun j => h.own.frozenAt j, h1.1, h1.2⟩
theorem mk_next {w w' : World} {B : Nat} {v : Value} {rs : List Tr} (h : Mk w B v rs) (hb : Below w.heap.size w w') : Mk w' B v rs :=
  h.stay (fun b _ h2 => hb.block b h2) hb.size
theorem mk_put {w : World} {B rb cp : Nat} {n : Int} {rx ry : Tr} (h : Mk w B (.slice (some ⟨rb, 0, none⟩) 2 cp) [rx, ry]) :
    Mk ((((w.setCell ⟨rb, 0, none⟩ (.int .i64 1)).setCell ⟨rb, 1, none⟩ (.int .i64 n)).setCell ⟨rb, 2, none⟩ (.string { data := #[] })).setCell ⟨rb, 3, none⟩ (.slice none 0 0)) B (.slice (some ⟨rb, 0, none⟩) 2 cp) [(intC n, none, 0), ry] := by
  refine ⟨?_, fun r hr => ?_⟩
  · have h4 := ((((h.own.stored 0 (.int .i64 1)).1.stored 1 (.int .i64 n)).1.stored 2 (.string { data := #[] })).1.stored 3 (.slice none 0 0)).1
    exact h4
  · simp only [List.mem_cons, List.not_mem_nil, or_false] at hr
    rcases hr with rfl | rfl
    · exact .nil _
    · refine (h.sub _ (by simp)).keep (fun b hb => ?_) (fun b hb => ⟨hb.1, by have := hb.2.1; simpa using this, hb.2.2⟩)
      have hne : b ≠ rb := fun e => hb.2.2 (by rw [e]; rfl)
      repeat rw [heap_setCell_other _ _ _ _ (by simpa using hne)]
theorem callR_is {s : ByteArray} {x y : Tm} {n e : Int} {b : Tm} (hg : (validT (.mk 3 0 s [x, y]) && sameT (.mk 3 0 s [x, y]) (canonT (.mk 3 0 s [x, y]))) = true) (h2 : hasS s 2 = true) (his : (s.toList == [105, 115]) = true) (hy : rvOf (valT y) = (n, b, e)) :
    (e ≠ 0 → callV (.mk 3 0 s [x, y]) = ([], b, e)) ∧ (e = 0 → callV (.mk 3 0 s [x, y]) = ([.mk 3 0 s [intC n, y]], zeroT, 0)) := by
  rw [callV_is hg h2 his]
  cases hv : valT y with
  | error c => rw [hv] at hy; simp only [rvOf, Prod.mk.injEq] at hy; obtain ⟨rfl, rfl, rfl⟩ := hy; exact ⟨fun _ => rfl, fun h => by simp at h⟩
  | ok m => rw [hv] at hy; simp only [rvOf, Prod.mk.injEq] at hy; obtain ⟨rfl, rfl, rfl⟩ := hy; exact ⟨fun h => by simp at h, fun _ => rfl⟩
theorem callR_cmp {s : ByteArray} {x y : Tm} {m n e f : Int} {b c : Tm} (hg : (validT (.mk 3 0 s [x, y]) && sameT (.mk 3 0 s [x, y]) (canonT (.mk 3 0 s [x, y]))) = true) (h2 : hasS s 2 = true) (his : (s.toList == [105, 115]) = false) (hx : rvOf (valT x) = (m, c, f)) (hy : rvOf (valT y) = (n, b, e)) :
    (f ≠ 0 → callV (.mk 3 0 s [x, y]) = ([], c, f)) ∧ (f = 0 → e ≠ 0 → callV (.mk 3 0 s [x, y]) = ([], b, e)) ∧ (f = 0 → e = 0 → callV (.mk 3 0 s [x, y]) = if cmpB s m n = true then ([.mk 3 0 s [x, y]], zeroT, 0) else ([], zeroT, 0)) := by
  rw [callV_cmp hg h2 his]
  cases hv : valT x with
  | error u => rw [hv] at hx; simp only [rvOf, Prod.mk.injEq] at hx; obtain ⟨rfl, rfl, rfl⟩ := hx; exact ⟨fun _ => rfl, fun h => by simp at h, fun h => by simp at h⟩
  | ok u =>
    rw [hv] at hx; simp only [rvOf, Prod.mk.injEq] at hx; obtain ⟨rfl, rfl, rfl⟩ := hx
    cases hv2 : valT y with
    | error v => rw [hv2] at hy; simp only [rvOf, Prod.mk.injEq] at hy; obtain ⟨rfl, rfl, rfl⟩ := hy; exact ⟨fun h => by simp at h, fun _ _ => rfl, fun _ h => by simp at h⟩
    | ok v => rw [hv2] at hy; simp only [rvOf, Prod.mk.injEq] at hy; obtain ⟨rfl, rfl, rfl⟩ := hy; exact ⟨fun h => by simp at h, fun _ h => by simp at h, fun _ _ => rfl⟩
set_option maxRecDepth 100000 in
set_option maxHeartbeats 8000000 in
theorem rcall11_any (t : Tm) (A : Option Addr) (c : Nat) (w : World) (hrg : rngT t = true) (ha : ArgsAt w (Old w.heap.size) A t.args) :
    Calls Tryz.prog 11 #[t.v A c] w fun e w' => CallR w (callV t) e w' ∧ Below w.heap.size w w' := by
  have HRG := Lib.hid hrg
  clear hrg
  obtain ⟨W, HW⟩ : ∃ X, Hid (X = (w.alloc (.cells #[.int .i64 t.kind, .int .i64 t.n, .string t.name, .slice A t.args.length c] 24)).alloc (.cells #[.int .i64 0, .int .i64 0, .string { data := #[] }, .slice none 0 0] 24)) := ⟨_, rfl⟩
  have hbW : Below w.heap.size w W := by rw [HW.out]; exact (bAlloc w _).alloc (by simp) _
  obtain ⟨q, hq⟩ : ∃ q, Hid (q = w.heap.size) := ⟨_, rfl⟩
  obtain ⟨r, hr⟩ : ∃ q, Hid (q = w.heap.size + 1) := ⟨_, rfl⟩
  have hk0 : Blk W q 24 #[.int .i64 t.kind, .int .i64 t.n, .string t.name, .slice A t.args.length c] := by rw [HW.out, hq.out]; exact (Blk.new w _ _).alloc _
  have hk1 : Blk W r 24 #[.int .i64 0, .int .i64 0, .string { data := #[] }, .slice none 0 0] := by
    rw [HW.out, hr.out]
    have h1 := Blk.new (w.alloc (.cells #[.int .i64 t.kind, .int .i64 t.n, .string t.name, .slice A t.args.length c] 24)) 24 #[.int .i64 0, .int .i64 0, .string { data := #[] }, .slice none 0 0]
    rw [World.size_alloc] at h1
    exact h1
  have HA := Lib.hid ha
  have HB := Lib.hid hbW
  have HK := Lib.hid hk0
  have HR := Lib.hid hk1
  have hqr : q ≠ r := by rw [hq.out, hr.out]; omega
  have hqw : w.heap.size ≤ q := by rw [hq.out]; exact Nat.le_refl _
  have hrw : w.heap.size ≤ r := by rw [hr.out]; omega
  have e0 := hk0.cell 0
  have e1 := hk0.cell 1
  have e2 := hk0.cell 2
  have e3 := hk0.cell 3
  have el := hk0.lt
  simp at e0 e1 e2 e3
  clear ha hbW hk0 hk1
  go_enter Tryz.func11, Tryz.ntmps11
  go_upto_region 1 with fail
  rw [← HW.out, ← hr.out, ← hq.out]
  clear HW
  go_wp2_with fail
  refine (iscan38_any t A c W (ArgsNext HA.out HB.out)).mono ?_
  rintro e w1 ⟨rfl, hb1⟩
  have HB1 := Lib.hid (bNext HB.out hb1)
  have HW1 := Lib.hid hb1
  have HK1 := Lib.hid (BlkNext HK.out hb1)
  clear e0 e1 e2 e3 el hb1
  cases hsm : sameT t (canonT t)
  · have HE := Lib.hid (callV_bad (t := t) (by rw [hsm, Bool.and_false]))
    clear hsm
    have hw1 := HW1.out
    have HR9 := Lib.hid (BlkNext HR.out hw1)
    have HBE := HB1
    have r0 := HR9.out.cell 0
    have f0 := HR9.out.frozen 0
    have r1 := HR9.out.cell 1
    have f1 := HR9.out.frozen 1
    have r2 := HR9.out.cell 2
    have f2 := HR9.out.frozen 2
    have r3 := HR9.out.cell 3
    have f3 := HR9.out.frozen 3
    have rl := HR9.out.lt
    simp at r0 r1 r2 r3
    go_wp2_with fail
    refine bodyPost_ret (v := .tuple #[.slice none 0 0, Tm.v zeroT none 0, .int .i64 1]) (by simp only [results, Tryz.results11, Tm.kind, Tm.n, Tm.name, Tm.args]; go_simp; exact ⟨rfl, rfl, rfl, rfl⟩) rfl ⟨by rw [HE.out]; exact ⟨_, none, 0, rfl, ⟨none, 0, rfl, .nil _⟩, .nil _⟩, ?_⟩
    repeat first | exact HBE.out | refine Below.setCell ?_ hrw _
  · have hv : validT t = true := by
      unfold sameT at hsm
      simp only [Bool.and_eq_true] at hsm
      exact hsm.1.1
    have HSM := Lib.hid (show (validT t && sameT t (canonT t)) = true by rw [hsm, hv]; rfl)
    have HV := Lib.hid hv
    clear hsm hv
    have e0 := HK1.out.cell 0
    have g0 := HK1.out.frozen 0
    have e1 := HK1.out.cell 1
    have g1 := HK1.out.frozen 1
    have e2 := HK1.out.cell 2
    have g2 := HK1.out.frozen 2
    have e3 := HK1.out.cell 3
    have g3 := HK1.out.frozen 3
    have el := HK1.out.lt
    simp at e0 e1 e2 e3
    clear g0 g1 g2 g3
    by_cases k3 : t.kind = 3
    · go_wp2_with fail
      refine (rhas13_any t.name (t.args.length : Int) w1).mono ?_
      rintro e w2 ⟨rfl, hb2⟩
      have hw2 : Below W.heap.size W w2 := bNext HW1.out hb2
      have HB2 := Lib.hid (bNext HB1.out hb2)
      have HK2 := Lib.hid (BlkNext HK1.out hb2)
      clear hb2 e0 e1 e2 e3 el
      cases hh : hasS t.name (t.args.length : Int)
      · have HE := Lib.hid (callV_none HSM.out (by rw [hh, Bool.and_false]))
        clear hh k3
        have HR9 := Lib.hid (BlkNext HR.out hw2)
        have HBE := HB2
        have r0 := HR9.out.cell 0
        have f0 := HR9.out.frozen 0
        have r1 := HR9.out.cell 1
        have f1 := HR9.out.frozen 1
        have r2 := HR9.out.cell 2
        have f2 := HR9.out.frozen 2
        have r3 := HR9.out.cell 3
        have f3 := HR9.out.frozen 3
        have rl := HR9.out.lt
        simp at r0 r1 r2 r3
        go_wp2_with fail
        refine bodyPost_ret (v := .tuple #[.slice none 0 0, Tm.v zeroT none 0, .int .i64 4]) (by simp only [results, Tryz.results11, Tm.n, Tm.name, Tm.args]; go_simp; exact ⟨rfl, rfl, rfl, rfl⟩) rfl ⟨by rw [HE.out]; exact ⟨_, none, 0, rfl, ⟨none, 0, rfl, .nil _⟩, .nil _⟩, ?_⟩
        repeat first | exact HBE.out | refine Below.setCell ?_ hrw _
      · obtain ⟨s, x, y, rfl, hcs, hs2⟩ := hasS_two HV.out (by rw [hh, k3]; rfl)
        clear hh k3 hcs
        have HS2 := Lib.hid hs2
        have HW2 := Lib.hid hw2
        clear hs2 hw2
        have e0 := HK2.out.cell 0
        have g0 := HK2.out.frozen 0
        have e1 := HK2.out.cell 1
        have g1 := HK2.out.frozen 1
        have e2 := HK2.out.cell 2
        have g2 := HK2.out.frozen 2
        have e3 := HK2.out.cell 3
        have g3 := HK2.out.frozen 3
        have el := HK2.out.lt
        simp at e0 e1 e2 e3
        clear g0 g1 g2 g3
        go_wp2_with fail
        refine (own39_any (.mk 3 0 s [x, y]) A c w2 HV.out (ArgsNext HA.out HB2.out)).mono ?_
        rintro e v3 ⟨⟨vv, rs, B, rfl, hrs, hB, hm⟩, hb3⟩
        have hl2 : rs.length = 2 := by simpa [Tm.args] using congrArg List.length hrs
        match rs, hl2, hrs, hm with
        | [(x', Ax, cx), (y', Ay, cy)], _, hrs, hm =>
        obtain ⟨rfl, rfl⟩ : x' = x ∧ y' = y := by simpa [Tm.args] using hrs
        clear hrs
        obtain ⟨rb, cp, rfl⟩ := own_some hm.own (by simp)
        have hBl : w.heap.size ≤ B := Nat.le_trans HB2.out.size hB
        have hBW : W.heap.size ≤ B := Nat.le_trans HW2.out.size hB
        have hsub := hm.sub
        have hbx := hsub (x', Ax, cx) (by simp)
        have hby := hsub (y', Ay, cy) (by simp)
        simp only [Tm.kind, Tm.n, Tm.name]
        clear e0 e1 e2 e3 el hsub
        go_upto_region 6 with fail
        obtain ⟨w4, hw4⟩ : ∃ X, Hid (X = v3.alloc (.cells #[.int .i64 3, .int .i64 0, .string s, .slice (some ⟨rb, 0, none⟩) 2 cp] 24)) := ⟨_, rfl⟩
        obtain ⟨g, hg⟩ : ∃ q, Hid (q = v3.heap.size) := ⟨_, rfl⟩
        rw [← hw4.out, ← hg.out]
        have hb4 : Below v3.heap.size v3 w4 := by rw [hw4.out]; exact bAlloc _ _
        have hbc := bNext hb3 hb4
        have HW4 := Lib.hid (bNext HW2.out hbc)
        have HB4 := Lib.hid (bNext HB2.out hbc)
        have HR4 := Lib.hid (BlkNext HR.out HW4.out)
        have HG4 := Lib.hid (show Blk w4 g 24 #[.int .i64 3, .int .i64 0, .string s, .slice (some ⟨rb, 0, none⟩) 2 cp] by rw [hw4.out, hg.out]; exact Blk.new _ _ _)
        have HM4 := Lib.hid (mk_next hm hb4)
        have HXX := Lib.hid (hbx.keep (w' := w4) (G := Old w4.heap.size) (fun z hz => hb4.block z hz.2.1) (fun z hz => Nat.lt_of_lt_of_le hz.2.1 hb4.size))
        have HYY := Lib.hid (hby.keep (w' := w4) (G := Old w4.heap.size) (fun z hz => hb4.block z hz.2.1) (fun z hz => Nat.lt_of_lt_of_le hz.2.1 hb4.size))
        have hmt := mk_two hm
        have hgb : g ≠ rb := by rw [hg.out]; have := hmt.2.2.2.2; omega
        have hrb : r ≠ rb := by have := hmt.2.2.2.1; have := HR.out.lt; omega
        have hgr : g ≠ r := by rw [hg.out]; have := hmt.2.2.2; have := HR.out.lt; omega
        have HV4 := Lib.hid (Below.refl w4.heap.size w4)
        have HFB := Lib.hid (show ∀ w', Below w4.heap.size w4 w' → w'.cell? ⟨g, 0, none⟩ = some (.int .i64 3) ∧ w'.cell? ⟨g, 1, none⟩ = some (.int .i64 0) ∧ w'.cell? ⟨g, 2, none⟩ = some (.string s) ∧ w'.cell? ⟨g, 3, none⟩ = some (.slice (some ⟨rb, 0, none⟩) 2 cp) ∧ g < w'.heap.size ∧
            w'.cell? ⟨rb, 0, none⟩ = some (.int .i64 x'.kind) ∧ w'.cell? ⟨rb, 1, none⟩ = some (.int .i64 x'.n) ∧ w'.cell? ⟨rb, 2, none⟩ = some (.string x'.name) ∧ w'.cell? ⟨rb, 3, none⟩ = some (.slice Ax x'.args.length cx) ∧
            w'.cell? ⟨rb, 4, none⟩ = some (.int .i64 y'.kind) ∧ w'.cell? ⟨rb, 5, none⟩ = some (.int .i64 y'.n) ∧ w'.cell? ⟨rb, 6, none⟩ = some (.string y'.name) ∧ w'.cell? ⟨rb, 7, none⟩ = some (.slice Ay y'.args.length cy) ∧ rb < w'.heap.size from fun w' hb => by
          have h := BlkNext HG4.out hb
          have e0 := h.cell 0
          have e1 := h.cell 1
          have e2 := h.cell 2
          have e3 := h.cell 3
          simp at e0 e1 e2 e3
          obtain ⟨h1, h2, -, -, h3⟩ := mk_two (mk_next HM4.out hb)
          exact ⟨e0, e1, e2, e3, h.lt, h1.1, h1.2.1, h1.2.2.1, h1.2.2.2, h2.1, h2.2.1, h2.2.2.1, h2.2.2.2, h3⟩)
        have hxo : (okT x' = true ∧ rngT x' = true) ∧ okT y' = true ∧ rngT y' = true := by
          have h1 := okT_args (validT_ok HV.out).1
          have h2 := rngT_args HRG.out
          simp only [Tm.args, okT.go, rngT.go, Bool.and_true, Bool.and_eq_true] at h1 h2
          exact ⟨⟨h1.1, h2.1⟩, h1.2, h2.2⟩
        have HXO := Lib.hid hxo.1
        have HYO := Lib.hid hxo.2
        clear hw4 hb3 hb4 hbc hm hbx hby hmt hxo hg hB
        obtain ⟨e0, e1, e2, e3, el, x0, x1, x2, x3, y0, y1, y2, y3, xl⟩ := HFB.out _ HV4.out
        go_wp2_with fail
        refine (value25_any _ y' (Nat.lt_succ_self _) HYO.out.1 HYO.out.2 Ay cy w4 HYY.out).mono ?_
        obtain ⟨⟨bn, bb, be⟩, hvy⟩ : ∃ u, rvOf (valT y') = u := ⟨_, rfl⟩
        rw [hvy]
        have HVY := Lib.hid hvy
        clear hvy
        rintro e v5 ⟨⟨A5, c5, rfl, ha5⟩, hb5⟩
        clear e0 e1 e2 e3 el x0 x1 x2 x3 y0 y1 y2 y3 xl
        go_upto_region 7 with fail
        obtain ⟨w5, hw5⟩ : ∃ X, Hid (X = v5.alloc (.cells #[.int .i64 bb.kind, .int .i64 bb.n, .string bb.name, .slice A5 bb.args.length c5] 24)) := ⟨_, rfl⟩
        obtain ⟨g5, hg5⟩ : ∃ q, Hid (q = v5.heap.size) := ⟨_, rfl⟩
        rw [← hw5.out, ← hg5.out]
        have hbb : Below v5.heap.size v5 w5 := by rw [hw5.out]; exact bAlloc _ _
        have hbc := bNext hb5 hbb
        have HP5 := Lib.hid hbc
        have HV5 := Lib.hid (bNext HV4.out hbc)
        have HB5 := Lib.hid (bNext HB4.out hbc)
        have HR5 := Lib.hid (BlkNext HR4.out hbc)
        have HG5 := Lib.hid (BlkNext HG4.out hbc)
        have HM5 := Lib.hid (mk_next HM4.out hbc)
        have HK5 := Lib.hid (show Blk w5 g5 24 #[.int .i64 bb.kind, .int .i64 bb.n, .string bb.name, .slice A5 bb.args.length c5] by rw [hw5.out, hg5.out]; exact Blk.new _ _ _)
        have HX5 := Lib.hid (ha5.keep (w' := w5) (G := Btw W.heap.size w5.heap.size) (fun z hz => hbb.block z hz.2) (fun z hz => ⟨Nat.le_trans (Nat.le_trans HW4.out.size HV4.out.size) hz.1, Nat.lt_of_lt_of_le hz.2 hbb.size⟩))
        have hgr5 := Lib.hid (show g5 ≠ r by have := HR4.out.lt; have := hb5.size; have := hg5.out; omega)
        clear hw5 hbb hbc ha5 hb5
        by_cases his : s = ⟨#[105, 115]⟩
        · have hil : (s.toList == [105, 115]) = true := by rw [his]; simp [ByteArray.toList_eq]
          have HCV := Lib.hid (callR_is HSM.out HS2.out hil HVY.out)
          clear hil
          subst his
          by_cases h0 : be = 0
          · subst h0
            have HE := Lib.hid (HCV.out.2 rfl)
            obtain ⟨e0, e1, e2, e3, el, x0, x1, x2, x3, y0, y1, y2, y3, xl⟩ := HFB.out _ HV5.out
            have z0 := (mk_two HM5.out).2.2.1 0
            have z1 := (mk_two HM5.out).2.2.1 1
            have z2 := (mk_two HM5.out).2.2.1 2
            have z3 := (mk_two HM5.out).2.2.1 3
            go_upto_region 11 with fail
            obtain ⟨w6, hw6⟩ : ∃ X, Hid (X = (((w5.setCell ⟨rb, 0, none⟩ (.int .i64 1)).setCell ⟨rb, 1, none⟩ (.int .i64 bn)).setCell ⟨rb, 2, none⟩ (.string { data := #[] })).setCell ⟨rb, 3, none⟩ (.slice none 0 0)) := ⟨_, rfl⟩
            rw [← hw6.out]
            have HM6 := Lib.hid (show Mk w6 B (.slice (some ⟨rb, 0, none⟩) 2 cp) [(intC bn, none, 0), (y', Ay, cy)] by rw [hw6.out]; exact mk_put HM5.out)
            have HR6 := Lib.hid (show Blk w6 r 24 #[.int .i64 0, .int .i64 0, .string { data := #[] }, .slice none 0 0] by rw [hw6.out]; exact ((((HR5.out.far (p := ⟨rb, 0, none⟩) hrb _).far (p := ⟨rb, 1, none⟩) hrb _).far (p := ⟨rb, 2, none⟩) hrb _).far (p := ⟨rb, 3, none⟩) hrb _))
            have HG6 := Lib.hid (show Blk w6 g 24 #[.int .i64 3, .int .i64 0, .string ⟨#[105, 115]⟩, .slice (some ⟨rb, 0, none⟩) 2 cp] by rw [hw6.out]; exact ((((HG5.out.far (p := ⟨rb, 0, none⟩) hgb _).far (p := ⟨rb, 1, none⟩) hgb _).far (p := ⟨rb, 2, none⟩) hgb _).far (p := ⟨rb, 3, none⟩) hgb _))
            have HB6 := Lib.hid (show Below w.heap.size w w6 by
              rw [hw6.out]
              repeat refine Below.setCell ?_ (Nat.le_trans hBl (mk_two HM5.out).2.2.2.1) _
              exact HB5.out)
            clear hw6 z0 z1 z2 z3
            clear e0 e1 e2 e3 el x0 x1 x2 x3 y0 y1 y2 y3 xl
            have r0 := HR6.out.cell 0
            have f0 := HR6.out.frozen 0
            have r1 := HR6.out.cell 1
            have f1 := HR6.out.frozen 1
            have r2 := HR6.out.cell 2
            have f2 := HR6.out.frozen 2
            have r3 := HR6.out.cell 3
            have f3 := HR6.out.frozen 3
            have rl := HR6.out.lt
            simp at r0 r1 r2 r3
            have e0 := HG6.out.cell 0
            have g0 := HG6.out.frozen 0
            have e1 := HG6.out.cell 1
            have g1 := HG6.out.frozen 1
            have e2 := HG6.out.cell 2
            have g2 := HG6.out.frozen 2
            have e3 := HG6.out.cell 3
            have g3 := HG6.out.frozen 3
            have el := HG6.out.lt
            simp at e0 e1 e2 e3
            clear g0 g1 g2 g3
            go_wp2_with fail
            have hzw := HB6.out.size
            have hrd := Mk.read (rs := [(intC bn, none, 0), (y', Ay, cy)]) HM6.out (by simp)
            have hml := (HM6.out.own.lt rb rfl)
            have hrW := HR.out.lt
            obtain ⟨F, hF⟩ : ∃ X, Hid (X = (((w6.setCell ⟨r, 0, none⟩ (.int .i64 0)).setCell ⟨r, 1, none⟩ (.int .i64 0)).setCell ⟨r, 2, none⟩ (.string { data := #[] })).setCell ⟨r, 3, none⟩ (.slice none 0 0)) := ⟨_, rfl⟩
            rw [← hF.out]
            have hzF : F.heap.size = w6.heap.size := by rw [hF.out]; simp
            have hbF : Below w.heap.size w F := by
              rw [hF.out]
              repeat refine Below.setCell ?_ hrw _
              exact HB6.out
            have hrdF := hrd.keep (w' := F) (G := fun z => B ≤ z ∧ z < w6.heap.size) (fun z hz => by
              rw [hF.out]
              repeat rw [heap_setCell_other _ _ _ _ (by have := hz.1; simp; omega)]) (fun _ h => h)
            have h1 := args_one (w := F) (x := .mk 3 0 ⟨#[105, 115]⟩ [intC bn, y']) (c := cp) (G := Btw w.heap.size (w6.heap.size + 1)) hrdF (fun z hz => ⟨by rw [hzF]; exact hz.2, ⟨Nat.le_trans hBl hz.1, Nat.lt_succ_of_lt hz.2⟩⟩) ⟨by omega, by rw [hzF]; exact Nat.lt_succ_self _⟩
            rw [hzF] at h1
            have hr2 : Blk F r 24 #[.int .i64 0, .int .i64 0, .string { data := #[] }, .slice none 0 0] := by
              rw [hF.out]
              have h := (((HR6.out.set_ 0 (.int .i64 0)).set_ 1 (.int .i64 0)).set_ 2 (.string { data := #[] })).set_ 3 (.slice none 0 0)
              simpa using h
            have HR9 := Lib.hid (hr2.alloc (.cells #[.int .i64 3, .int .i64 0, .string ⟨#[105, 115]⟩, .slice (some ⟨rb, 0, none⟩) 2 cp] 24))
            clear hr2 hF r0 r1 r2 r3 rl f0 f1 f2 f3
            have r0 := HR9.out.cell 0
            have f0 := HR9.out.frozen 0
            have r1 := HR9.out.cell 1
            have f1 := HR9.out.frozen 1
            have r2 := HR9.out.cell 2
            have f2 := HR9.out.frozen 2
            have r3 := HR9.out.cell 3
            have f3 := HR9.out.frozen 3
            have rl := HR9.out.lt
            simp at r0 r1 r2 r3
            refine bodyPost_ret (v := .tuple #[.slice (some ⟨w6.heap.size, 0, none⟩) 1 1, Tm.v zeroT none 0, .int .i64 0]) (by simp only [results, Tryz.results11, Tm.kind, Tm.n, Tm.name, Tm.args]; go_simp; first | done | rfl | exact ⟨rfl, rfl, rfl, rfl⟩) rfl ⟨by rw [HE.out]; exact ⟨_, none, 0, rfl, ⟨_, _, rfl, h1.keep (fun _ _ => rfl) (fun z hz => ⟨hz.1, by have := hz.2; simp; omega⟩)⟩, .nil _⟩, Below.alloc hbF (by omega) _⟩
          · have q0 : (be != 0) = true := by simpa using h0
            have HE := Lib.hid (HCV.out.1 h0)
            obtain ⟨e0, e1, e2, e3, el, x0, x1, x2, x3, y0, y1, y2, y3, xl⟩ := HFB.out _ HV5.out
            go_upto_region 9 with fail
            clear e0 e1 e2 e3 el x0 x1 x2 x3 y0 y1 y2 y3 xl
            obtain ⟨D, hD⟩ : ∃ X, Hid (X = w5.drew) := ⟨_, rfl⟩
            have hd : Below w5.heap.size w5 D := by rw [hD.out]; exact bDrewN (Below.refl _ _) 1
            have hS0 : KeptQ r w5 D := KeptQ.of hd
            refine wp_region_N (fun w' => KeptQ r w5 w') (fun _ => true) (by kernel_rfl) ?_
            rw [← hD.out]
            have HRD := Lib.hid (BlkNext HR5.out hd)
            have HBD := Lib.hid (bNext HB5.out hd)
            have HXD := Lib.hid (HX5.out.keep (w' := D) (G := Btw W.heap.size D.heap.size) (fun z hz => hd.block z hz.2) (fun z hz => ⟨hz.1, Nat.lt_of_lt_of_le hz.2 hd.size⟩))
            have HBF := Lib.hid (show ∀ w', KeptQ r w5 w' → w'.cell? ⟨g5, 0, none⟩ = some (.int .i64 (bb).kind) ∧ w'.cell? ⟨g5, 1, none⟩ = some (.int .i64 (bb).n) ∧ w'.cell? ⟨g5, 2, none⟩ = some (.string (bb).name) ∧ w'.cell? ⟨g5, 3, none⟩ = some (.slice A5 (bb).args.length c5) ∧ g5 < w'.heap.size from fun w' hk => by
              have h : Blk w' g5 24 #[.int .i64 bb.kind, .int .i64 bb.n, .string bb.name, .slice A5 bb.args.length c5] := (hk.block g5 HK5.out.lt hgr5.out).trans HK5.out
              have p0 := h.cell 0
              have p1 := h.cell 1
              have p2 := h.cell 2
              have p3 := h.cell 3
              simp at p0 p1 p2 p3
              exact ⟨p0, p1, p2, p3, h.lt⟩)
            clear hD hd
            refine wpAnyN_take (i := 0) (v := ?v1) rfl (by kernel_rfl) (by kernel_rfl) (by kernel_rfl) (by kernel_rfl) (fun _ _ _ h => h) (Or.inl ⟨by rfl, ?hy1⟩) (by assumption) ?_
            case hy1 => intro w hSw; (obtain ⟨p0, p1, p2, p3, pl⟩ := HBF.out _ hSw); go_simp; try with_reducible rfl
            simp only [Act.put, List.getElem_toArray, List.getElem_cons_zero, List.setIfInBounds_toArray, List.set_cons_zero, List.set_cons_succ]
            refine wpAnyN_take (i := 1) (v := ?v2) rfl (by kernel_rfl) (by kernel_rfl) (by kernel_rfl) (by kernel_rfl) (fun _ _ _ h => h) (Or.inl ⟨by rfl, ?hy2⟩) (by assumption) ?_
            case hy2 => intro w hSw; (try dsimp only at hSw); go_simp; try with_reducible rfl
            simp only [Act.put, List.getElem_toArray, List.getElem_cons_zero, List.getElem_cons_succ, List.setIfInBounds_toArray, List.set_cons_zero, List.set_cons_succ]
            refine wpAnyN_take (i := 2) (v := ?v3) rfl (by kernel_rfl) (by kernel_rfl) (by kernel_rfl) (by kernel_rfl) (fun _ _ _ h => h) (Or.inl ⟨by rfl, ?hy3⟩) (by assumption) ?_
            case hy3 => intro w hSw; (try dsimp only at hSw); go_simp; try with_reducible rfl
            simp only [Act.put, List.getElem_toArray, List.getElem_cons_zero, List.getElem_cons_succ, List.setIfInBounds_toArray, List.set_cons_zero, List.set_cons_succ]
            have r0 := HRD.out.cell 0
            have f0 := HRD.out.frozen 0
            have r1 := HRD.out.cell 1
            have f1 := HRD.out.frozen 1
            have r2 := HRD.out.cell 2
            have f2 := HRD.out.frozen 2
            have r3 := HRD.out.cell 3
            have f3 := HRD.out.frozen 3
            have rl := HRD.out.lt
            simp at r0 r1 r2 r3
            have HS0 := Lib.hid hS0
            clear hS0
            refine wpAnyN_one (i := 3) (by kernel_rfl) rfl (fun K hK => ?_)
            simp only [List.getElem_toArray, List.getElem_cons_zero, List.getElem_cons_succ]
            go_simp
            obtain ⟨F, hF⟩ : ∃ X, Hid (X = (((D.setCell ⟨r, 0, none⟩ (.int .i64 (bb).kind)).setCell ⟨r, 1, none⟩ (.int .i64 (bb).n)).setCell ⟨r, 2, none⟩ (.string (bb).name)).setCell ⟨r, 3, none⟩ (.slice A5 (bb).args.length c5)) := ⟨_, rfl⟩
            rw [← hF.out]
            have hS1 : KeptQ r w5 F := by rw [hF.out]; exact (((HS0.out.setq _).setq _).setq _).setq _
            refine hK _ _ (fun _ => hS1) ?_
            have HRF := Lib.hid (show Blk F r 24 #[.int .i64 bb.kind, .int .i64 bb.n, .string bb.name, .slice A5 bb.args.length c5] by
              rw [hF.out]
              have h := (((HRD.out.set_ 0 (.int .i64 (bb).kind)).set_ 1 (.int .i64 (bb).n)).set_ 2 (.string (bb).name)).set_ 3 (.slice A5 (bb).args.length c5)
              simpa using h)
            have HBE := Lib.hid (show Below w.heap.size w F by
              rw [hF.out]
              repeat refine Below.setCell ?_ hrw _
              exact HBD.out)
            have HXF := Lib.hid (HXD.out.keep (w' := F) (G := Btw w.heap.size F.heap.size) (fun z hz => by
              rw [hF.out]
              repeat rw [heap_setCell_other _ _ _ _ (by have := hz.1; have := HR.out.lt; simp; omega)]) (fun z hz => ⟨by have := hz.1; have := HB.out.size; omega, by rw [hF.out]; simpa using hz.2⟩))
            clear hF r0 r1 r2 r3 rl f0 f1 f2 f3
            (try simp only [Act.put, List.setIfInBounds_toArray, List.set_cons_zero, List.set_cons_succ])
            refine wpAnyN_take (i := 4) (v := ?v4) rfl (by kernel_rfl) (by kernel_rfl) (by kernel_rfl) (by kernel_rfl) (fun _ _ _ h => h) (Or.inl ⟨by rfl, ?hy4⟩) (by assumption) ?_
            case hy4 => intro w hSw; (try dsimp only at hSw); go_simp; try with_reducible rfl
            simp only [Act.put, List.getElem_toArray, List.getElem_cons_zero, List.getElem_cons_succ, List.setIfInBounds_toArray, List.set_cons_zero, List.set_cons_succ]
            refine wpAnyN_done (by kernel_rfl) ?_ _
            clear hS1
            have r0 := HRF.out.cell 0
            have f0 := HRF.out.frozen 0
            have r1 := HRF.out.cell 1
            have f1 := HRF.out.frozen 1
            have r2 := HRF.out.cell 2
            have f2 := HRF.out.frozen 2
            have r3 := HRF.out.cell 3
            have f3 := HRF.out.frozen 3
            have rl := HRF.out.lt
            simp at r0 r1 r2 r3
            go_wp2_with fail
            refine bodyPost_ret (v := .tuple #[.slice none 0 0, Tm.v (bb) A5 c5, .int .i64 be]) (by simp only [results, Tryz.results11]; go_simp) rfl ⟨by rw [HE.out]; exact ⟨_, A5, c5, rfl, ⟨none, 0, rfl, .nil _⟩, HXF.out⟩, HBE.out⟩
        · have hil : (s.toList == [105, 115]) = false := by
            cases h : (s.toList == [105, 115])
            · rfl
            · exact absurd (bytes_inj (by rw [eq_of_beq h]; simp [ByteArray.toList_eq])) his
          have e9 := ne_list (l := [105, 115]) his
          clear his
          have HIL := Lib.hid hil
          clear hil
          obtain ⟨e0, e1, e2, e3, el, x0, x1, x2, x3, y0, y1, y2, y3, xl⟩ := HFB.out _ HV5.out
          go_wp2_with fail
          refine (value25_any _ x' (Nat.lt_succ_self _) HXO.out.1 HXO.out.2 Ax cx w5 (ArgsNext HXX.out HV5.out)).mono ?_
          obtain ⟨⟨an, ab, ae⟩, hvx⟩ : ∃ u, rvOf (valT x') = u := ⟨_, rfl⟩
          rw [hvx]
          have HCV := Lib.hid (callR_cmp HSM.out HS2.out HIL.out hvx HVY.out)
          clear hvx e9
          rintro e v7 ⟨⟨A7, c7, rfl, ha7⟩, hb7⟩
          clear e0 e1 e2 e3 el x0 x1 x2 x3 y0 y1 y2 y3 xl
          go_upto_region 13 with fail
          obtain ⟨w7, hw7⟩ : ∃ X, Hid (X = v7.alloc (.cells #[.int .i64 ab.kind, .int .i64 ab.n, .string ab.name, .slice A7 ab.args.length c7] 24)) := ⟨_, rfl⟩
          obtain ⟨g7, hg7⟩ : ∃ q, Hid (q = v7.heap.size) := ⟨_, rfl⟩
          rw [← hw7.out, ← hg7.out]
          have hbb : Below v7.heap.size v7 w7 := by rw [hw7.out]; exact bAlloc _ _
          have hbc := bNext hb7 hbb
          have HP7 := Lib.hid hbc
          have HV7 := Lib.hid (bNext HV5.out hbc)
          have HB7 := Lib.hid (bNext HB5.out hbc)
          have HR7 := Lib.hid (BlkNext HR5.out hbc)
          have HG7 := Lib.hid (BlkNext HG5.out hbc)
          have HM7 := Lib.hid (mk_next HM5.out hbc)
          have HK7 := Lib.hid (show Blk w7 g7 24 #[.int .i64 ab.kind, .int .i64 ab.n, .string ab.name, .slice A7 ab.args.length c7] by rw [hw7.out, hg7.out]; exact Blk.new _ _ _)
          have HX7 := Lib.hid (ha7.keep (w' := w7) (G := Btw W.heap.size w7.heap.size) (fun z hz => hbb.block z hz.2) (fun z hz => ⟨Nat.le_trans (Nat.le_trans HW4.out.size HV5.out.size) hz.1, Nat.lt_of_lt_of_le hz.2 hbb.size⟩))
          have hgr7 := Lib.hid (show g7 ≠ r by have := HR5.out.lt; have := hb7.size; have := hg7.out; omega)
          clear hw7 hbb hbc ha7 hb7
          by_cases f0 : ae = 0
          · subst f0
            have HK5 := Lib.hid (BlkNext HK5.out HP7.out)
            by_cases h0 : be = 0
            · subst h0
              have HE := Lib.hid (HCV.out.2.2 rfl rfl)
              obtain ⟨e0, e1, e2, e3, el, x0, x1, x2, x3, y0, y1, y2, y3, xl⟩ := HFB.out _ HV7.out
              go_wp2_with fail
              refine (holds40_any s an bn w7).mono ?_
              rintro e w8 ⟨rfl, hb8⟩
              have HB8 := Lib.hid (bNext HB7.out hb8)
              have HR8 := Lib.hid (BlkNext HR7.out hb8)
              have HG8 := Lib.hid (BlkNext HG7.out hb8)
              have HM8 := Lib.hid (mk_next HM7.out hb8)
              clear hb8
              clear e0 e1 e2 e3 el x0 x1 x2 x3 y0 y1 y2 y3 xl
              cases hcb : cmpB s an bn
              · have HE := Lib.hid (show callV (.mk 3 0 s [x', y']) = ([], zeroT, 0) by rw [HE.out, hcb]; rfl)
                clear hcb
                have r0 := HR8.out.cell 0
                have f0 := HR8.out.frozen 0
                have r1 := HR8.out.cell 1
                have f1 := HR8.out.frozen 1
                have r2 := HR8.out.cell 2
                have f2 := HR8.out.frozen 2
                have r3 := HR8.out.cell 3
                have f3 := HR8.out.frozen 3
                have rl := HR8.out.lt
                simp at r0 r1 r2 r3
                go_wp2_with fail
                refine bodyPost_ret (v := .tuple #[.slice none 0 0, Tm.v zeroT none 0, .int .i64 0]) (by simp only [results, Tryz.results11, Tm.kind, Tm.n, Tm.name, Tm.args]; go_simp; exact ⟨rfl, rfl, rfl, rfl⟩) rfl ⟨by rw [HE.out]; exact ⟨_, none, 0, rfl, ⟨none, 0, rfl, .nil _⟩, .nil _⟩, ?_⟩
                repeat refine Below.setCell ?_ hrw _
                exact HB8.out
              · have HE := Lib.hid (show callV (.mk 3 0 s [x', y']) = ([.mk 3 0 s [x', y']], zeroT, 0) by rw [HE.out, hcb]; rfl)
                clear hcb
                go_upto_region 19 with fail
                have r0 := HR8.out.cell 0
                have f0 := HR8.out.frozen 0
                have r1 := HR8.out.cell 1
                have f1 := HR8.out.frozen 1
                have r2 := HR8.out.cell 2
                have f2 := HR8.out.frozen 2
                have r3 := HR8.out.cell 3
                have f3 := HR8.out.frozen 3
                have rl := HR8.out.lt
                simp at r0 r1 r2 r3
                have e0 := HG8.out.cell 0
                have g0 := HG8.out.frozen 0
                have e1 := HG8.out.cell 1
                have g1 := HG8.out.frozen 1
                have e2 := HG8.out.cell 2
                have g2 := HG8.out.frozen 2
                have e3 := HG8.out.cell 3
                have g3 := HG8.out.frozen 3
                have el := HG8.out.lt
                simp at e0 e1 e2 e3
                clear g0 g1 g2 g3
                go_wp2_with fail
                have hzw := HB8.out.size
                have hrd := Mk.read (rs := [(x', Ax, cx), (y', Ay, cy)]) HM8.out (by simp)
                have hml := (HM8.out.own.lt rb rfl)
                have hrW := HR.out.lt
                obtain ⟨F, hF⟩ : ∃ X, Hid (X = (((w8.setCell ⟨r, 0, none⟩ (.int .i64 0)).setCell ⟨r, 1, none⟩ (.int .i64 0)).setCell ⟨r, 2, none⟩ (.string { data := #[] })).setCell ⟨r, 3, none⟩ (.slice none 0 0)) := ⟨_, rfl⟩
                rw [← hF.out]
                have hzF : F.heap.size = w8.heap.size := by rw [hF.out]; simp
                have hbF : Below w.heap.size w F := by
                  rw [hF.out]
                  repeat refine Below.setCell ?_ hrw _
                  exact HB8.out
                have hrdF := hrd.keep (w' := F) (G := fun z => B ≤ z ∧ z < w8.heap.size) (fun z hz => by
                  rw [hF.out]
                  repeat rw [heap_setCell_other _ _ _ _ (by have := hz.1; simp; omega)]) (fun _ h => h)
                have h1 := args_one (w := F) (x := .mk 3 0 s [x', y']) (c := cp) (G := Btw w.heap.size (w8.heap.size + 1)) hrdF (fun z hz => ⟨by rw [hzF]; exact hz.2, ⟨Nat.le_trans hBl hz.1, Nat.lt_succ_of_lt hz.2⟩⟩) ⟨by omega, by rw [hzF]; exact Nat.lt_succ_self _⟩
                rw [hzF] at h1
                have hr2 : Blk F r 24 #[.int .i64 0, .int .i64 0, .string { data := #[] }, .slice none 0 0] := by
                  rw [hF.out]
                  have h := (((HR8.out.set_ 0 (.int .i64 0)).set_ 1 (.int .i64 0)).set_ 2 (.string { data := #[] })).set_ 3 (.slice none 0 0)
                  simpa using h
                have HR9 := Lib.hid (hr2.alloc (.cells #[.int .i64 3, .int .i64 0, .string s, .slice (some ⟨rb, 0, none⟩) 2 cp] 24))
                clear hr2 hF r0 r1 r2 r3 rl f0 f1 f2 f3
                have r0 := HR9.out.cell 0
                have f0 := HR9.out.frozen 0
                have r1 := HR9.out.cell 1
                have f1 := HR9.out.frozen 1
                have r2 := HR9.out.cell 2
                have f2 := HR9.out.frozen 2
                have r3 := HR9.out.cell 3
                have f3 := HR9.out.frozen 3
                have rl := HR9.out.lt
                simp at r0 r1 r2 r3
                refine bodyPost_ret (v := .tuple #[.slice (some ⟨w8.heap.size, 0, none⟩) 1 1, Tm.v zeroT none 0, .int .i64 0]) (by simp only [results, Tryz.results11, Tm.kind, Tm.n, Tm.name, Tm.args]; go_simp; first | done | rfl | exact ⟨rfl, rfl, rfl, rfl⟩) rfl ⟨by rw [HE.out]; exact ⟨_, none, 0, rfl, ⟨_, _, rfl, h1.keep (fun _ _ => rfl) (fun z hz => ⟨hz.1, by have := hz.2; simp; omega⟩)⟩, .nil _⟩, Below.alloc hbF (by omega) _⟩
            · have q0 : (be != 0) = true := by simpa using h0
              have HE := Lib.hid (HCV.out.2.1 rfl h0)
              have HX5 := Lib.hid (HX5.out.keep (w' := w7) (G := Btw W.heap.size w7.heap.size) (fun z hz => HP7.out.block z hz.2) (fun z hz => ⟨hz.1, Nat.lt_of_lt_of_le hz.2 HP7.out.size⟩))
              obtain ⟨e0, e1, e2, e3, el, x0, x1, x2, x3, y0, y1, y2, y3, xl⟩ := HFB.out _ HV7.out
              go_upto_region 16 with fail
              clear e0 e1 e2 e3 el x0 x1 x2 x3 y0 y1 y2 y3 xl
              obtain ⟨D, hD⟩ : ∃ X, Hid (X = w7.drew) := ⟨_, rfl⟩
              have hd : Below w7.heap.size w7 D := by rw [hD.out]; exact bDrewN (Below.refl _ _) 1
              have hS0 : KeptQ r w7 D := KeptQ.of hd
              refine wp_region_N (fun w' => KeptQ r w7 w') (fun _ => true) (by kernel_rfl) ?_
              rw [← hD.out]
              have HRD := Lib.hid (BlkNext HR7.out hd)
              have HBD := Lib.hid (bNext HB7.out hd)
              have HXD := Lib.hid (HX5.out.keep (w' := D) (G := Btw W.heap.size D.heap.size) (fun z hz => hd.block z hz.2) (fun z hz => ⟨hz.1, Nat.lt_of_lt_of_le hz.2 hd.size⟩))
              have HBF := Lib.hid (show ∀ w', KeptQ r w7 w' → w'.cell? ⟨g5, 0, none⟩ = some (.int .i64 (bb).kind) ∧ w'.cell? ⟨g5, 1, none⟩ = some (.int .i64 (bb).n) ∧ w'.cell? ⟨g5, 2, none⟩ = some (.string (bb).name) ∧ w'.cell? ⟨g5, 3, none⟩ = some (.slice A5 (bb).args.length c5) ∧ g5 < w'.heap.size from fun w' hk => by
                have h : Blk w' g5 24 #[.int .i64 bb.kind, .int .i64 bb.n, .string bb.name, .slice A5 bb.args.length c5] := (hk.block g5 HK5.out.lt hgr5.out).trans HK5.out
                have p0 := h.cell 0
                have p1 := h.cell 1
                have p2 := h.cell 2
                have p3 := h.cell 3
                simp at p0 p1 p2 p3
                exact ⟨p0, p1, p2, p3, h.lt⟩)
              clear hD hd
              refine wpAnyN_take (i := 0) (v := ?v5) rfl (by kernel_rfl) (by kernel_rfl) (by kernel_rfl) (by kernel_rfl) (fun _ _ _ h => h) (Or.inl ⟨by rfl, ?hy5⟩) (by assumption) ?_
              case hy5 => intro w hSw; (obtain ⟨p0, p1, p2, p3, pl⟩ := HBF.out _ hSw); go_simp; try with_reducible rfl
              simp only [Act.put, List.getElem_toArray, List.getElem_cons_zero, List.setIfInBounds_toArray, List.set_cons_zero, List.set_cons_succ]
              refine wpAnyN_take (i := 1) (v := ?v6) rfl (by kernel_rfl) (by kernel_rfl) (by kernel_rfl) (by kernel_rfl) (fun _ _ _ h => h) (Or.inl ⟨by rfl, ?hy6⟩) (by assumption) ?_
              case hy6 => intro w hSw; (try dsimp only at hSw); go_simp; try with_reducible rfl
              simp only [Act.put, List.getElem_toArray, List.getElem_cons_zero, List.getElem_cons_succ, List.setIfInBounds_toArray, List.set_cons_zero, List.set_cons_succ]
              refine wpAnyN_take (i := 2) (v := ?v7) rfl (by kernel_rfl) (by kernel_rfl) (by kernel_rfl) (by kernel_rfl) (fun _ _ _ h => h) (Or.inl ⟨by rfl, ?hy7⟩) (by assumption) ?_
              case hy7 => intro w hSw; (try dsimp only at hSw); go_simp; try with_reducible rfl
              simp only [Act.put, List.getElem_toArray, List.getElem_cons_zero, List.getElem_cons_succ, List.setIfInBounds_toArray, List.set_cons_zero, List.set_cons_succ]
              have r0 := HRD.out.cell 0
              have f0 := HRD.out.frozen 0
              have r1 := HRD.out.cell 1
              have f1 := HRD.out.frozen 1
              have r2 := HRD.out.cell 2
              have f2 := HRD.out.frozen 2
              have r3 := HRD.out.cell 3
              have f3 := HRD.out.frozen 3
              have rl := HRD.out.lt
              simp at r0 r1 r2 r3
              have HS0 := Lib.hid hS0
              clear hS0
              refine wpAnyN_one (i := 3) (by kernel_rfl) rfl (fun K hK => ?_)
              simp only [List.getElem_toArray, List.getElem_cons_zero, List.getElem_cons_succ]
              go_simp
              obtain ⟨F, hF⟩ : ∃ X, Hid (X = (((D.setCell ⟨r, 0, none⟩ (.int .i64 (bb).kind)).setCell ⟨r, 1, none⟩ (.int .i64 (bb).n)).setCell ⟨r, 2, none⟩ (.string (bb).name)).setCell ⟨r, 3, none⟩ (.slice A5 (bb).args.length c5)) := ⟨_, rfl⟩
              rw [← hF.out]
              have hS1 : KeptQ r w7 F := by rw [hF.out]; exact (((HS0.out.setq _).setq _).setq _).setq _
              refine hK _ _ (fun _ => hS1) ?_
              have HRF := Lib.hid (show Blk F r 24 #[.int .i64 bb.kind, .int .i64 bb.n, .string bb.name, .slice A5 bb.args.length c5] by
                rw [hF.out]
                have h := (((HRD.out.set_ 0 (.int .i64 (bb).kind)).set_ 1 (.int .i64 (bb).n)).set_ 2 (.string (bb).name)).set_ 3 (.slice A5 (bb).args.length c5)
                simpa using h)
              have HBE := Lib.hid (show Below w.heap.size w F by
                rw [hF.out]
                repeat refine Below.setCell ?_ hrw _
                exact HBD.out)
              have HXF := Lib.hid (HXD.out.keep (w' := F) (G := Btw w.heap.size F.heap.size) (fun z hz => by
                rw [hF.out]
                repeat rw [heap_setCell_other _ _ _ _ (by have := hz.1; have := HR.out.lt; simp; omega)]) (fun z hz => ⟨by have := hz.1; have := HB.out.size; omega, by rw [hF.out]; simpa using hz.2⟩))
              clear hF r0 r1 r2 r3 rl f0 f1 f2 f3
              (try simp only [Act.put, List.setIfInBounds_toArray, List.set_cons_zero, List.set_cons_succ])
              refine wpAnyN_take (i := 4) (v := ?v8) rfl (by kernel_rfl) (by kernel_rfl) (by kernel_rfl) (by kernel_rfl) (fun _ _ _ h => h) (Or.inl ⟨by rfl, ?hy8⟩) (by assumption) ?_
              case hy8 => intro w hSw; (try dsimp only at hSw); go_simp; try with_reducible rfl
              simp only [Act.put, List.getElem_toArray, List.getElem_cons_zero, List.getElem_cons_succ, List.setIfInBounds_toArray, List.set_cons_zero, List.set_cons_succ]
              refine wpAnyN_done (by kernel_rfl) ?_ _
              clear hS1
              have r0 := HRF.out.cell 0
              have f0 := HRF.out.frozen 0
              have r1 := HRF.out.cell 1
              have f1 := HRF.out.frozen 1
              have r2 := HRF.out.cell 2
              have f2 := HRF.out.frozen 2
              have r3 := HRF.out.cell 3
              have f3 := HRF.out.frozen 3
              have rl := HRF.out.lt
              simp at r0 r1 r2 r3
              go_wp2_with fail
              refine bodyPost_ret (v := .tuple #[.slice none 0 0, Tm.v (bb) A5 c5, .int .i64 be]) (by simp only [results, Tryz.results11]; go_simp) rfl ⟨by rw [HE.out]; exact ⟨_, A5, c5, rfl, ⟨none, 0, rfl, .nil _⟩, HXF.out⟩, HBE.out⟩
          · have q0 : (ae != 0) = true := by simpa using f0
            have HE := Lib.hid (HCV.out.1 f0)
            obtain ⟨e0, e1, e2, e3, el, x0, x1, x2, x3, y0, y1, y2, y3, xl⟩ := HFB.out _ HV7.out
            go_upto_region 14 with fail
            clear e0 e1 e2 e3 el x0 x1 x2 x3 y0 y1 y2 y3 xl
            obtain ⟨D, hD⟩ : ∃ X, Hid (X = w7.drew) := ⟨_, rfl⟩
            have hd : Below w7.heap.size w7 D := by rw [hD.out]; exact bDrewN (Below.refl _ _) 1
            have hS0 : KeptQ r w7 D := KeptQ.of hd
            refine wp_region_N (fun w' => KeptQ r w7 w') (fun _ => true) (by kernel_rfl) ?_
            rw [← hD.out]
            have HRD := Lib.hid (BlkNext HR7.out hd)
            have HBD := Lib.hid (bNext HB7.out hd)
            have HXD := Lib.hid (HX7.out.keep (w' := D) (G := Btw W.heap.size D.heap.size) (fun z hz => hd.block z hz.2) (fun z hz => ⟨hz.1, Nat.lt_of_lt_of_le hz.2 hd.size⟩))
            have HBF := Lib.hid (show ∀ w', KeptQ r w7 w' → w'.cell? ⟨g7, 0, none⟩ = some (.int .i64 (ab).kind) ∧ w'.cell? ⟨g7, 1, none⟩ = some (.int .i64 (ab).n) ∧ w'.cell? ⟨g7, 2, none⟩ = some (.string (ab).name) ∧ w'.cell? ⟨g7, 3, none⟩ = some (.slice A7 (ab).args.length c7) ∧ g7 < w'.heap.size from fun w' hk => by
              have h : Blk w' g7 24 #[.int .i64 ab.kind, .int .i64 ab.n, .string ab.name, .slice A7 ab.args.length c7] := (hk.block g7 HK7.out.lt hgr7.out).trans HK7.out
              have p0 := h.cell 0
              have p1 := h.cell 1
              have p2 := h.cell 2
              have p3 := h.cell 3
              simp at p0 p1 p2 p3
              exact ⟨p0, p1, p2, p3, h.lt⟩)
            clear hD hd
            refine wpAnyN_take (i := 0) (v := ?v9) rfl (by kernel_rfl) (by kernel_rfl) (by kernel_rfl) (by kernel_rfl) (fun _ _ _ h => h) (Or.inl ⟨by rfl, ?hy9⟩) (by assumption) ?_
            case hy9 => intro w hSw; (obtain ⟨p0, p1, p2, p3, pl⟩ := HBF.out _ hSw); go_simp; try with_reducible rfl
            simp only [Act.put, List.getElem_toArray, List.getElem_cons_zero, List.setIfInBounds_toArray, List.set_cons_zero, List.set_cons_succ]
            refine wpAnyN_take (i := 1) (v := ?v10) rfl (by kernel_rfl) (by kernel_rfl) (by kernel_rfl) (by kernel_rfl) (fun _ _ _ h => h) (Or.inl ⟨by rfl, ?hy10⟩) (by assumption) ?_
            case hy10 => intro w hSw; (try dsimp only at hSw); go_simp; try with_reducible rfl
            simp only [Act.put, List.getElem_toArray, List.getElem_cons_zero, List.getElem_cons_succ, List.setIfInBounds_toArray, List.set_cons_zero, List.set_cons_succ]
            refine wpAnyN_take (i := 2) (v := ?v11) rfl (by kernel_rfl) (by kernel_rfl) (by kernel_rfl) (by kernel_rfl) (fun _ _ _ h => h) (Or.inl ⟨by rfl, ?hy11⟩) (by assumption) ?_
            case hy11 => intro w hSw; (try dsimp only at hSw); go_simp; try with_reducible rfl
            simp only [Act.put, List.getElem_toArray, List.getElem_cons_zero, List.getElem_cons_succ, List.setIfInBounds_toArray, List.set_cons_zero, List.set_cons_succ]
            have r0 := HRD.out.cell 0
            have f0 := HRD.out.frozen 0
            have r1 := HRD.out.cell 1
            have f1 := HRD.out.frozen 1
            have r2 := HRD.out.cell 2
            have f2 := HRD.out.frozen 2
            have r3 := HRD.out.cell 3
            have f3 := HRD.out.frozen 3
            have rl := HRD.out.lt
            simp at r0 r1 r2 r3
            have HS0 := Lib.hid hS0
            clear hS0
            refine wpAnyN_one (i := 3) (by kernel_rfl) rfl (fun K hK => ?_)
            simp only [List.getElem_toArray, List.getElem_cons_zero, List.getElem_cons_succ]
            go_simp
            obtain ⟨F, hF⟩ : ∃ X, Hid (X = (((D.setCell ⟨r, 0, none⟩ (.int .i64 (ab).kind)).setCell ⟨r, 1, none⟩ (.int .i64 (ab).n)).setCell ⟨r, 2, none⟩ (.string (ab).name)).setCell ⟨r, 3, none⟩ (.slice A7 (ab).args.length c7)) := ⟨_, rfl⟩
            rw [← hF.out]
            have hS1 : KeptQ r w7 F := by rw [hF.out]; exact (((HS0.out.setq _).setq _).setq _).setq _
            refine hK _ _ (fun _ => hS1) ?_
            have HRF := Lib.hid (show Blk F r 24 #[.int .i64 ab.kind, .int .i64 ab.n, .string ab.name, .slice A7 ab.args.length c7] by
              rw [hF.out]
              have h := (((HRD.out.set_ 0 (.int .i64 (ab).kind)).set_ 1 (.int .i64 (ab).n)).set_ 2 (.string (ab).name)).set_ 3 (.slice A7 (ab).args.length c7)
              simpa using h)
            have HBE := Lib.hid (show Below w.heap.size w F by
              rw [hF.out]
              repeat refine Below.setCell ?_ hrw _
              exact HBD.out)
            have HXF := Lib.hid (HXD.out.keep (w' := F) (G := Btw w.heap.size F.heap.size) (fun z hz => by
              rw [hF.out]
              repeat rw [heap_setCell_other _ _ _ _ (by have := hz.1; have := HR.out.lt; simp; omega)]) (fun z hz => ⟨by have := hz.1; have := HB.out.size; omega, by rw [hF.out]; simpa using hz.2⟩))
            clear hF r0 r1 r2 r3 rl f0 f1 f2 f3
            (try simp only [Act.put, List.setIfInBounds_toArray, List.set_cons_zero, List.set_cons_succ])
            refine wpAnyN_take (i := 4) (v := ?v12) rfl (by kernel_rfl) (by kernel_rfl) (by kernel_rfl) (by kernel_rfl) (fun _ _ _ h => h) (Or.inl ⟨by rfl, ?hy12⟩) (by assumption) ?_
            case hy12 => intro w hSw; (try dsimp only at hSw); go_simp; try with_reducible rfl
            simp only [Act.put, List.getElem_toArray, List.getElem_cons_zero, List.getElem_cons_succ, List.setIfInBounds_toArray, List.set_cons_zero, List.set_cons_succ]
            refine wpAnyN_done (by kernel_rfl) ?_ _
            clear hS1
            have r0 := HRF.out.cell 0
            have f0 := HRF.out.frozen 0
            have r1 := HRF.out.cell 1
            have f1 := HRF.out.frozen 1
            have r2 := HRF.out.cell 2
            have f2 := HRF.out.frozen 2
            have r3 := HRF.out.cell 3
            have f3 := HRF.out.frozen 3
            have rl := HRF.out.lt
            simp at r0 r1 r2 r3
            go_wp2_with fail
            refine bodyPost_ret (v := .tuple #[.slice none 0 0, Tm.v (ab) A7 c7, .int .i64 ae]) (by simp only [results, Tryz.results11]; go_simp) rfl ⟨by rw [HE.out]; exact ⟨_, A7, c7, rfl, ⟨none, 0, rfl, .nil _⟩, HXF.out⟩, HBE.out⟩
    · have HE := Lib.hid (callV_none HSM.out (by simp [k3]))
      have k3' : (t.kind != 3) = true := by simpa using k3
      have hw1 := HW1.out
      have HR9 := Lib.hid (BlkNext HR.out hw1)
      have HBE := HB1
      have r0 := HR9.out.cell 0
      have f0 := HR9.out.frozen 0
      have r1 := HR9.out.cell 1
      have f1 := HR9.out.frozen 1
      have r2 := HR9.out.cell 2
      have f2 := HR9.out.frozen 2
      have r3 := HR9.out.cell 3
      have f3 := HR9.out.frozen 3
      have rl := HR9.out.lt
      simp at r0 r1 r2 r3
      go_wp2_with fail
      refine bodyPost_ret (v := .tuple #[.slice none 0 0, Tm.v zeroT none 0, .int .i64 4]) (by simp only [results, Tryz.results11, Tm.kind, Tm.n, Tm.name, Tm.args]; go_simp; exact ⟨rfl, rfl, rfl, rfl⟩) rfl ⟨by rw [HE.out]; exact ⟨_, none, 0, rfl, ⟨none, 0, rfl, .nil _⟩, .nil _⟩, ?_⟩
      repeat first | exact HBE.out | refine Below.setCell ?_ hrw _
end Go.Proofs.YtcagaaacfcpoeaaGreat
