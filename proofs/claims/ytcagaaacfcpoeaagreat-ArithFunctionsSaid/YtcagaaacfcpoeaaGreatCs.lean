/-
  Walks: the small functions of the law and of the references.
-/
import Derived.Test.YtcagaaacfcpoeaaGreatCr
namespace Go.Proofs.YtcagaaacfcpoeaaGreat
open Go.RowKit

@[reducible] def atmC (s : ByteArray) : Tm := .mk 2 0 s []
@[reducible] def varC (n : Int) : Tm := .mk 0 n { data := #[] } []
@[reducible] def goalC (s : ByteArray) (l : List Tm) : Tm := .mk 3 0 s l
set_option maxHeartbeats 1000000 in
theorem number11_any (n : Int) (w : World) : Calls Tryz.prog 27 #[.int .i64 n] w fun e w' => e = .returned (Tm.v (intC n) none 0) ∧ Below w.heap.size w w' := by
  obtain ⟨W, HW⟩ : ∃ X, Hid (X = w.alloc (.cells #[.int .i64 0, .int .i64 0, .string { data := #[] }, .slice none 0 0] 24)) := ⟨_, rfl⟩
  have hbW : Below w.heap.size w W := by rw [HW.out]; exact bAlloc w _
  obtain ⟨r, hr⟩ : ∃ q, Hid (q = w.heap.size) := ⟨_, rfl⟩
  have hk1 : Blk W r 24 #[.int .i64 0, .int .i64 0, .string { data := #[] }, .slice none 0 0] := by rw [HW.out, hr.out]; exact Blk.new w _ _
  have HB := Lib.hid hbW
  have HR := Lib.hid hk1
  have hrw : w.heap.size ≤ r := by rw [hr.out]; exact Nat.le_refl _
  clear hbW hk1
  go_enter Tryz.func27, Tryz.ntmps27
  go_upto_region 1 with fail
  rw [← HW.out, ← hr.out]
  clear HW
  have r0 := HR.out.cell 0
  have f0 := HR.out.frozen 0
  have r1 := HR.out.cell 1
  have f1 := HR.out.frozen 1
  have r2 := HR.out.cell 2
  have f2 := HR.out.frozen 2
  have r3 := HR.out.cell 3
  have f3 := HR.out.frozen 3
  have rl := HR.out.lt
  simp at r0 r1 r2 r3
  go_wp2_with fail
  refine bodyPost_ret (v := Tm.v (intC n) none 0) (by simp only [results, Tryz.results27]; go_simp; exact ⟨rfl, rfl, rfl, rfl⟩) rfl ⟨rfl, ?_⟩
  repeat refine Below.setCell ?_ hrw _
  exact HB.out
set_option maxHeartbeats 1000000 in
theorem variable24_any (n : Int) (w : World) : Calls Tryz.prog 28 #[.int .i64 n] w fun e w' => e = .returned (Tm.v (varC n) none 0) ∧ Below w.heap.size w w' := by
  obtain ⟨W, HW⟩ : ∃ X, Hid (X = w.alloc (.cells #[.int .i64 0, .int .i64 0, .string { data := #[] }, .slice none 0 0] 24)) := ⟨_, rfl⟩
  have hbW : Below w.heap.size w W := by rw [HW.out]; exact bAlloc w _
  obtain ⟨r, hr⟩ : ∃ q, Hid (q = w.heap.size) := ⟨_, rfl⟩
  have hk1 : Blk W r 24 #[.int .i64 0, .int .i64 0, .string { data := #[] }, .slice none 0 0] := by rw [HW.out, hr.out]; exact Blk.new w _ _
  have HB := Lib.hid hbW
  have HR := Lib.hid hk1
  have hrw : w.heap.size ≤ r := by rw [hr.out]; exact Nat.le_refl _
  clear hbW hk1
  go_enter Tryz.func28, Tryz.ntmps28
  go_upto_region 1 with fail
  rw [← HW.out, ← hr.out]
  clear HW
  have r0 := HR.out.cell 0
  have f0 := HR.out.frozen 0
  have r1 := HR.out.cell 1
  have f1 := HR.out.frozen 1
  have r2 := HR.out.cell 2
  have f2 := HR.out.frozen 2
  have r3 := HR.out.cell 3
  have f3 := HR.out.frozen 3
  have rl := HR.out.lt
  simp at r0 r1 r2 r3
  go_wp2_with fail
  refine bodyPost_ret (v := Tm.v (varC n) none 0) (by simp only [results, Tryz.results28]; go_simp; exact ⟨rfl, rfl, rfl, rfl⟩) rfl ⟨rfl, ?_⟩
  repeat refine Below.setCell ?_ hrw _
  exact HB.out
set_option maxHeartbeats 1000000 in
theorem atom54_any (s : ByteArray) (w : World) : Calls Tryz.prog 74 #[.string s] w fun e w' => e = .returned (Tm.v (atmC s) none 0) ∧ Below w.heap.size w w' := by
  obtain ⟨W, HW⟩ : ∃ X, Hid (X = w.alloc (.cells #[.int .i64 0, .int .i64 0, .string { data := #[] }, .slice none 0 0] 24)) := ⟨_, rfl⟩
  have hbW : Below w.heap.size w W := by rw [HW.out]; exact bAlloc w _
  obtain ⟨r, hr⟩ : ∃ q, Hid (q = w.heap.size) := ⟨_, rfl⟩
  have hk1 : Blk W r 24 #[.int .i64 0, .int .i64 0, .string { data := #[] }, .slice none 0 0] := by rw [HW.out, hr.out]; exact Blk.new w _ _
  have HB := Lib.hid hbW
  have HR := Lib.hid hk1
  have hrw : w.heap.size ≤ r := by rw [hr.out]; exact Nat.le_refl _
  clear hbW hk1
  go_enter Tryz.func74, Tryz.ntmps74
  go_upto_region 1 with fail
  rw [← HW.out, ← hr.out]
  clear HW
  have r0 := HR.out.cell 0
  have f0 := HR.out.frozen 0
  have r1 := HR.out.cell 1
  have f1 := HR.out.frozen 1
  have r2 := HR.out.cell 2
  have f2 := HR.out.frozen 2
  have r3 := HR.out.cell 3
  have f3 := HR.out.frozen 3
  have rl := HR.out.lt
  simp at r0 r1 r2 r3
  go_wp2_with fail
  refine bodyPost_ret (v := Tm.v (atmC s) none 0) (by simp only [results, Tryz.results74]; go_simp; exact ⟨rfl, rfl, rfl, rfl⟩) rfl ⟨rfl, ?_⟩
  repeat refine Below.setCell ?_ hrw _
  exact HB.out
set_option maxHeartbeats 1000000 in
theorem goal16_any (s : ByteArray) (l : List Tm) (A : Option Addr) (c : Nat) (w : World) : Calls Tryz.prog 15 #[.string s, .slice A l.length c] w fun e w' => e = .returned (Tm.v (goalC s l) A c) ∧ Below w.heap.size w w' := by
  obtain ⟨W, HW⟩ : ∃ X, Hid (X = w.alloc (.cells #[.int .i64 0, .int .i64 0, .string { data := #[] }, .slice none 0 0] 24)) := ⟨_, rfl⟩
  have hbW : Below w.heap.size w W := by rw [HW.out]; exact bAlloc w _
  obtain ⟨r, hr⟩ : ∃ q, Hid (q = w.heap.size) := ⟨_, rfl⟩
  have hk1 : Blk W r 24 #[.int .i64 0, .int .i64 0, .string { data := #[] }, .slice none 0 0] := by rw [HW.out, hr.out]; exact Blk.new w _ _
  have HB := Lib.hid hbW
  have HR := Lib.hid hk1
  have hrw : w.heap.size ≤ r := by rw [hr.out]; exact Nat.le_refl _
  clear hbW hk1
  go_enter Tryz.func15, Tryz.ntmps15
  go_upto_region 1 with fail
  rw [← HW.out, ← hr.out]
  clear HW
  have r0 := HR.out.cell 0
  have f0 := HR.out.frozen 0
  have r1 := HR.out.cell 1
  have f1 := HR.out.frozen 1
  have r2 := HR.out.cell 2
  have f2 := HR.out.frozen 2
  have r3 := HR.out.cell 3
  have f3 := HR.out.frozen 3
  have rl := HR.out.lt
  simp at r0 r1 r2 r3
  go_wp2_with fail
  refine bodyPost_ret (v := Tm.v (goalC s l) A c) (by simp only [results, Tryz.results15]; go_simp; exact ⟨rfl, rfl, rfl, rfl⟩) rfl ⟨rfl, ?_⟩
  repeat refine Below.setCell ?_ hrw _
  exact HB.out
set_option maxHeartbeats 1000000 in
theorem structure53_any (s : ByteArray) (l : List Tm) (A : Option Addr) (c : Nat) (w : World) : Calls Tryz.prog 73 #[.string s, .slice A l.length c] w fun e w' => e = .returned (Tm.v (goalC s l) A c) ∧ Below w.heap.size w w' := by
  obtain ⟨W, HW⟩ : ∃ X, Hid (X = w.alloc (.cells #[.int .i64 0, .int .i64 0, .string { data := #[] }, .slice none 0 0] 24)) := ⟨_, rfl⟩
  have hbW : Below w.heap.size w W := by rw [HW.out]; exact bAlloc w _
  obtain ⟨r, hr⟩ : ∃ q, Hid (q = w.heap.size) := ⟨_, rfl⟩
  have hk1 : Blk W r 24 #[.int .i64 0, .int .i64 0, .string { data := #[] }, .slice none 0 0] := by rw [HW.out, hr.out]; exact Blk.new w _ _
  have HB := Lib.hid hbW
  have HR := Lib.hid hk1
  have hrw : w.heap.size ≤ r := by rw [hr.out]; exact Nat.le_refl _
  clear hbW hk1
  go_enter Tryz.func73, Tryz.ntmps73
  go_upto_region 1 with fail
  rw [← HW.out, ← hr.out]
  clear HW
  have r0 := HR.out.cell 0
  have f0 := HR.out.frozen 0
  have r1 := HR.out.cell 1
  have f1 := HR.out.frozen 1
  have r2 := HR.out.cell 2
  have f2 := HR.out.frozen 2
  have r3 := HR.out.cell 3
  have f3 := HR.out.frozen 3
  have rl := HR.out.lt
  simp at r0 r1 r2 r3
  go_wp2_with fail
  refine bodyPost_ret (v := Tm.v (goalC s l) A c) (by simp only [results, Tryz.results73]; go_simp; exact ⟨rfl, rfl, rfl, rfl⟩) rfl ⟨rfl, ?_⟩
  repeat refine Below.setCell ?_ hrw _
  exact HB.out
def zeroB (t : Tm) : Bool := t.kind == 0 && t.n == 0 && t.name.toList.isEmpty && ((t.args.length : Int) == 0)
set_option maxHeartbeats 1000000 in
theorem zero17_any (t : Tm) (A : Option Addr) (c : Nat) (w : World) : Calls Tryz.prog 26 #[t.v A c] w fun e w' => e = .returned (.bool (zeroB t)) ∧ Below w.heap.size w w' := by
  go_enter Tryz.func26, Tryz.ntmps26
  go_wp2
  all_goals go_ret
  all_goals refine ⟨ret_bool ?_, (Below.refl _ _).alloc (Nat.le_refl _) _⟩
  all_goals first | (simp [zeroB, *]; done) | (simp [zeroB, *]; omega)
set_option maxHeartbeats 1000000 in
theorem same12_any (a b : Tm) (Aa : Option Addr) (ca : Nat) (Ab : Option Addr) (cb : Nat) (w : World) (haa : ArgsAt w (Old w.heap.size) Aa a.args) (hab : ArgsAt w (Old w.heap.size) Ab b.args) :
    Calls Tryz.prog 14 #[a.v Aa ca, b.v Ab cb] w fun e w' => e = .returned (.bool (sameT a b)) ∧ Below w.heap.size w w' := by
  have HA := Lib.hid haa
  have HB := Lib.hid hab
  clear haa hab
  go_enter Tryz.func14, Tryz.ntmps14
  go_wp2_with fail
  have hbW : Below w.heap.size w ((w.alloc (.cells #[.int .i64 a.kind, .int .i64 a.n, .string a.name, .slice Aa a.args.length ca] 24)).alloc (.cells #[.int .i64 b.kind, .int .i64 b.n, .string b.name, .slice Ab b.args.length cb] 24)) := (bAlloc w _).alloc (by simp) _
  have HBW := Lib.hid hbW
  refine (same29_any a b Aa ca Ab cb _ (ArgsNext HA.out HBW.out) (ArgsNext HB.out HBW.out)).mono ?_
  rintro e w1 ⟨rfl, hb1⟩
  have HB1 := Lib.hid (bNext HBW.out hb1)
  clear hb1 hbW
  go_wp2_with fail
  go_ret
  exact ⟨rfl, HB1.out⟩
theorem mapT_id : ∀ t : Tm, mapT (fun _ n => n) t = t := Tm.ind fun k n s a ih => by
  rw [mapT_mk]
  congr 1
  induction a with
  | nil => rfl
  | cons x r ihr => rw [List.map_cons, ih x (by simp), ihr (fun y hy => ih y (by simp [hy]))]
theorem mapT_idL (l : List Tm) : l.map (mapT fun _ n => n) = l := by
  induction l with
  | nil => rfl
  | cons x r ih => rw [List.map_cons, mapT_id, ih]
/-- a copy that was made reads as the term -/
theorem made_new {w w' : World} {t : Tm} {v : Value} {rs : List Tr} {f : Int → Int → Int} (hrs : rs.map (·.1) = t.args.map (mapT f)) (hm : Mk w' w.heap.size v rs) (hl : t.args.length ≤ 281474976710656) :
    ∃ A c, v = .slice A t.args.length c ∧ ArgsAt w' (Btw w.heap.size w'.heap.size) A (t.args.map (mapT f)) := by
  obtain ⟨A, c, rfl⟩ := hm.form
  have h := congrArg List.length hrs
  simp at h
  refine ⟨A, c, by rw [h], ?_⟩
  have := hm.read (by omega)
  rwa [hrs] at this
set_option maxHeartbeats 4000000 in
theorem clone76_any (t : Tm) (A : Option Addr) (c : Nat) (w : World) (ha : ArgsAt w (Old w.heap.size) A t.args) :
    Calls Tryz.prog 39 #[t.v A c] w fun e w' => NewT w (cloneT t) e w' ∧ Below w.heap.size w w' := by
  obtain ⟨W, HW⟩ : ∃ X, Hid (X = (w.alloc (.cells #[.int .i64 t.kind, .int .i64 t.n, .string t.name, .slice A t.args.length c] 24)).alloc (.cells #[.int .i64 0, .int .i64 0, .string { data := #[] }, .slice none 0 0] 24)) := ⟨_, rfl⟩
  have hbW : Below w.heap.size w W := by rw [HW.out]; exact (bAlloc w _).alloc (by simp) _
  obtain ⟨q, hq⟩ : ∃ q, Hid (q = w.heap.size) := ⟨_, rfl⟩
  obtain ⟨r, hr⟩ : ∃ q, Hid (q = w.heap.size + 1) := ⟨_, rfl⟩
  have hk0 : Blk W q 24 #[.int .i64 t.kind, .int .i64 t.n, .string t.name, .slice A t.args.length c] := by rw [HW.out, hq.out]; exact (Blk.new w _ _).alloc _
  have hk1 : Blk W r 24 #[.int .i64 0, .int .i64 0, .string { data := #[] }, .slice none 0 0] := by
    rw [HW.out, hr.out]
    have h1 := Blk.new (w.alloc (.cells #[.int .i64 t.kind, .int .i64 t.n, .string t.name, .slice A t.args.length c] 24)) 24 #[.int .i64 0, .int .i64 0, .string { data := #[] }, .slice none 0 0]
    rw [World.size_alloc] at h1
    exact h1
  have HA := Lib.hid ha
  have HB := Lib.hid hbW
  have HK := Lib.hid hk0
  have HR := Lib.hid hk1
  have hqr : q ≠ r := by rw [hq.out, hr.out]; omega
  have hqw : w.heap.size ≤ q := by rw [hq.out]; exact Nat.le_refl _
  have hrw : w.heap.size ≤ r := by rw [hr.out]; omega
  have e0 := hk0.cell 0
  have e1 := hk0.cell 1
  have e2 := hk0.cell 2
  have e3 := hk0.cell 3
  have el := hk0.lt
  simp at e0 e1 e2 e3
  clear ha hbW hk0 hk1
  go_enter Tryz.func39, Tryz.ntmps39
  go_upto_region 1 with fail
  rw [← HW.out, ← hr.out, ← hq.out]
  clear HW
  go_wp2_with fail
  refine (valid03_any t A c W (ArgsNext HA.out HB.out)).mono ?_
  rintro e w1 ⟨rfl, hb1⟩
  have HB1 := Lib.hid (bNext HB.out hb1)
  have HR1 := Lib.hid (BlkNext HR.out hb1)
  have hk1 := BlkNext HK.out hb1
  clear e0 e1 e2 e3 el hb1
  have e0 := hk1.cell 0
  have e1 := hk1.cell 1
  have e2 := hk1.cell 2
  have e3 := hk1.cell 3
  have el := hk1.lt
  simp at e0 e1 e2 e3
  clear hk1
  cases hv : validT t
  · have HV := Lib.hid (show cloneT t = zeroT by unfold cloneT; rw [hv]; rfl)
    clear hv
    have r0 := HR1.out.cell 0
    have f0 := HR1.out.frozen 0
    have r1 := HR1.out.cell 1
    have f1 := HR1.out.frozen 1
    have r2 := HR1.out.cell 2
    have f2 := HR1.out.frozen 2
    have r3 := HR1.out.cell 3
    have f3 := HR1.out.frozen 3
    have rl := HR1.out.lt
    simp at r0 r1 r2 r3
    go_wp2_with fail
    refine bodyPost_ret (v := Tm.v zeroT none 0) (by simp only [results, Tryz.results39, Tm.kind, Tm.n, Tm.name, Tm.args]; go_simp; exact ⟨rfl, rfl, rfl, rfl⟩) rfl ⟨by rw [HV.out]; exact ⟨none, 0, rfl, .nil _⟩, ?_⟩
    repeat refine Below.setCell ?_ hrw _
    exact HB1.out
  · have HV := Lib.hid (show cloneT t = t by unfold cloneT; rw [hv]; rfl)
    have HOK := Lib.hid (validT_ok hv)
    clear hv
    go_wp2_with fail
    refine (copied_any _ t (Nat.lt_succ_self _) (by have := HOK.out.2; omega) A c w1 (ArgsNext HA.out HB1.out)).mono ?_
    rintro e w2 ⟨⟨v, rs, rfl, hrs, hm⟩, hb2⟩
    obtain ⟨A2, c2, rfl, ha2⟩ := made_new hrs hm (by have := args_le t; have := HOK.out.2; omega)
    rw [mapT_idL] at ha2
    have HA2 := Lib.hid ha2
    have HB2 := Lib.hid (bNext HB1.out hb2)
    have HR2 := Lib.hid (BlkNext HR1.out hb2)
    have hz1 := HB1.out.size
    have hrl1 := HR1.out.lt
    clear ha2 hb2 hrs hm e0 e1 e2 e3 el
    have r0 := HR2.out.cell 0
    have f0 := HR2.out.frozen 0
    have r1 := HR2.out.cell 1
    have f1 := HR2.out.frozen 1
    have r2 := HR2.out.cell 2
    have f2 := HR2.out.frozen 2
    have r3 := HR2.out.cell 3
    have f3 := HR2.out.frozen 3
    have rl := HR2.out.lt
    simp at r0 r1 r2 r3
    go_wp2_with fail
    refine bodyPost_ret (v := t.v A2 c2) (by simp only [results, Tryz.results39]; go_simp) rfl ⟨?_, ?_⟩
    · rw [HV.out]
      refine ⟨A2, c2, rfl, ?_⟩
      refine HA2.out.keep (fun b hb => ?_) (fun b hb => ⟨by have := hb.1; omega, by have := hb.2; simpa using this⟩)
      repeat rw [heap_setCell_other _ _ _ _ (by have := hb.1; simp; omega)]
    · repeat refine Below.setCell ?_ hrw _
      exact HB2.out
end Go.Proofs.YtcagaaacfcpoeaaGreat
