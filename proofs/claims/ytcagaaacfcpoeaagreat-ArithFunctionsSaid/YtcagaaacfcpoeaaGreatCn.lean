/-
  Walks: Eval.
-/
import Derived.Test.YtcagaaacfcpoeaaGreatCm
namespace Go.Proofs.YtcagaaacfcpoeaaGreat
open Go.RowKit

theorem KeptQ.setq {q : Nat} {w w1 : World} (h : KeptQ q w w1) {p : Addr} (v : Value) (hp : p.block = q := by rfl) : KeptQ q w (w1.setCell p v) := by
  have hb : Below 0 w1 (w1.setCell p v) := (Below.refl _ _).setCell (Nat.zero_le _) _
  exact ⟨hb.os.trans h.os, hb.tape.trans h.tape, hb.output.trans h.output, Nat.le_trans h.size hb.size, fun g hg hq => (heap_setCell_other _ _ _ _ (by rw [hp]; exact hq)).trans (h.block g hg hq)⟩
set_option maxHeartbeats 2000000 in
theorem evalf21_any (t : Tm) (A : Option Addr) (c : Nat) (pt pn : Nat) (w : World) (hok : okT t = true) (hrg : rngT t = true) (hp : Blk w pt 24 #[.int .i64 t.kind, .int .i64 t.n, .string t.name, .slice A t.args.length c]) (hn : Blk w pn 2 #[.int .i64 0]) (ha : ArgsAt w (Old w.heap.size) A t.args) :
    Calls Tryz.prog 23 #[.pointer (some ⟨pt, 0, none⟩), .pointer (some ⟨pn, 0, none⟩)] w fun e w2 => ((e = .returned (.tuple #[]) ∧ ∃ n, valT t = .ok n ∧ Blk w2 pn 2 #[.int .i64 n]) ∨ ∃ b A c, e = .panicked [{ v := .iface 65 (Tm.v b A c), recovered := false }] ∧ valT t = .error b ∧ Blk w2 pn 2 #[.int .i64 0] ∧ ArgsAt w2 (Btw w.heap.size w2.heap.size) A b.args) ∧ KeptQ pn w w2 := by
  have HY := Lib.hid (value22_any (cnt t + 1) t (Nat.lt_succ_self _) hok hrg A c w ha)
  have HN := Lib.hid hn
  have e0 := hp.cell 0
  have e1 := hp.cell 1
  have e2 := hp.cell 2
  have e3 := hp.cell 3
  have el := hp.lt
  simp at e0 e1 e2 e3
  clear hp hn ha
  go_enter Tryz.func23, Tryz.ntmps23
  go_wp2_with fail
  refine HY.out.mono ?_
  rintro e w2 ⟨hv, hb⟩
  have HN2 := Lib.hid (BlkNext HN.out hb)
  have HB := Lib.hid hb
  clear hb
  cases hvt : valT t with
  | error b =>
    rw [hvt] at hv
    obtain ⟨A9, c9, rfl, h9⟩ := hv
    exact ⟨rfl, .inr ⟨b, A9, c9, rfl, hvt, HN2.out, h9⟩, KeptQ.of HB.out⟩
  | ok n =>
    rw [hvt] at hv
    have hv' : e = .returned (.int .i64 n) := hv
    subst hv'
    have s0 := HN2.out.cell 0
    have g0 := HN2.out.frozen 0
    have sl := HN2.out.lt
    simp at s0
    have HVT := Lib.hid hvt
    clear hvt e0 e1 e2 e3 el
    go_wp2_with fail
    refine ⟨rfl, .tuple #[], by simp [results, Tryz.results23, go_sem], .inl ⟨rfl, n, HVT.out, ?_⟩, (KeptQ.of HB.out).setq _⟩
    have h := HN2.out.set_ 0 (.int .i64 n)
    simpa using h
/-- what Eval returns: value, ball, error -/
def evT (t : Tm) : Int × Tm × Int := if validT t = false then (0, zeroT, 1) else match valT t with | .ok n => (n, zeroT, 0) | .error b => (0, b, 8)
theorem evT_bad {t : Tm} (h : validT t = false) : evT t = (0, zeroT, 1) := if_pos h
theorem evT_ok {t : Tm} {n : Int} (h : validT t = true) (hv : valT t = .ok n) : evT t = (n, zeroT, 0) := by unfold evT; rw [if_neg (by simp [h]), hv]
theorem evT_err {t b : Tm} (h : validT t = true) (hv : valT t = .error b) : evT t = (0, b, 8) := by unfold evT; rw [if_neg (by simp [h]), hv]
def EvR (w : World) (x : Int × Tm × Int) (e : Ending) (w' : World) : Prop := ∃ A c, e = .returned (.tuple #[.int .i64 x.1, Tm.v x.2.1 A c, .int .i64 x.2.2]) ∧ ArgsAt w' (Btw w.heap.size w'.heap.size) A x.2.1.args
set_option maxHeartbeats 4000000 in
theorem eval6_any (t : Tm) (A : Option Addr) (c : Nat) (w : World) (hrg : rngT t = true) (ha : ArgsAt w (Old w.heap.size) A t.args) :
    Calls Tryz.prog 6 #[t.v A c] w fun e w' => EvR w (evT t) e w' ∧ Below w.heap.size w w' := by
  have HA := Lib.hid ha
  clear ha
  obtain ⟨W, HW⟩ : ∃ X, Hid (X = ((w.alloc (.cells #[.int .i64 t.kind, .int .i64 t.n, .string t.name, .slice A t.args.length c] 24)).alloc (.cells #[.int .i64 0] 2)).alloc (.cells #[.int .i64 0, .int .i64 0, .string { data := #[] }, .slice none 0 0] 24)) := ⟨_, rfl⟩
  have hbW : Below w.heap.size w W := by rw [HW.out]; exact ((bAlloc w _).alloc (by simp) _).alloc (by simp; omega) _
  obtain ⟨q, hq⟩ : ∃ q, Hid (q = w.heap.size) := ⟨_, rfl⟩
  obtain ⟨pn, hpn⟩ : ∃ q, Hid (q = w.heap.size + 1) := ⟨_, rfl⟩
  obtain ⟨r, hr⟩ : ∃ q, Hid (q = w.heap.size + 2) := ⟨_, rfl⟩
  have hk0 : Blk W q 24 #[.int .i64 t.kind, .int .i64 t.n, .string t.name, .slice A t.args.length c] := by rw [HW.out, hq.out]; exact ((Blk.new w _ _).alloc _).alloc _
  have hk1 : Blk W pn 2 #[.int .i64 0] := by
    rw [HW.out, hpn.out]
    have h1 := (Blk.new (w.alloc (.cells #[.int .i64 t.kind, .int .i64 t.n, .string t.name, .slice A t.args.length c] 24)) 2 #[.int .i64 0]).alloc (.cells #[.int .i64 0, .int .i64 0, .string { data := #[] }, .slice none 0 0] 24)
    rw [World.size_alloc] at h1
    exact h1
  have hk2 : Blk W r 24 #[.int .i64 0, .int .i64 0, .string { data := #[] }, .slice none 0 0] := by
    rw [HW.out, hr.out]
    have h1 := Blk.new ((w.alloc (.cells #[.int .i64 t.kind, .int .i64 t.n, .string t.name, .slice A t.args.length c] 24)).alloc (.cells #[.int .i64 0] 2)) 24 #[.int .i64 0, .int .i64 0, .string { data := #[] }, .slice none 0 0]
    rw [World.size_alloc, World.size_alloc] at h1
    exact h1
  have HB0 := Lib.hid hbW
  have HK0 := Lib.hid hk0
  have HN0 := Lib.hid hk1
  have HR0 := Lib.hid hk2
  have hqn : q ≠ pn := by rw [hq.out, hpn.out]; omega
  have hqr : q ≠ r := by rw [hq.out, hr.out]; omega
  have hnr : pn ≠ r := by rw [hpn.out, hr.out]; omega
  have hqw : w.heap.size ≤ q := by rw [hq.out]; exact Nat.le_refl _
  have hnw : w.heap.size ≤ pn := by rw [hpn.out]; omega
  have hrw : w.heap.size ≤ r := by rw [hr.out]; omega
  have e0 := hk0.cell 0
  have e1 := hk0.cell 1
  have e2 := hk0.cell 2
  have e3 := hk0.cell 3
  have el := hk0.lt
  simp at e0 e1 e2 e3
  clear hbW hk0 hk1 hk2
  go_enter Tryz.func6, Tryz.ntmps6
  go_upto_region 1 with fail
  rw [← HW.out, ← hr.out, ← hpn.out, ← hq.out]
  clear HW
  go_wp2_with fail
  refine (validP_any t A c W (ArgsNext HA.out HB0.out)).mono ?_
  rintro e w1 ⟨rfl, hb1⟩
  have HB1 := Lib.hid (bNext HB0.out hb1)
  have HK1 := Lib.hid (BlkNext HK0.out hb1)
  have HN1 := Lib.hid (BlkNext HN0.out hb1)
  have HR1 := Lib.hid (BlkNext HR0.out hb1)
  clear hb1 e0 e1 e2 e3 el
  cases hv : validT t
  · have HE := Lib.hid (evT_bad hv)
    have s0 := HN1.out.cell 0
    have g0 := HN1.out.frozen 0
    have sl := HN1.out.lt
    simp at s0
    clear hv
    have r0 := HR1.out.cell 0
    have f0 := HR1.out.frozen 0
    have r1 := HR1.out.cell 1
    have f1 := HR1.out.frozen 1
    have r2 := HR1.out.cell 2
    have f2 := HR1.out.frozen 2
    have r3 := HR1.out.cell 3
    have f3 := HR1.out.frozen 3
    have rl := HR1.out.lt
    simp at r0 r1 r2 r3
    go_wp2_with fail
    refine bodyPost_ret (v := .tuple #[.int .i64 0, Tm.v zeroT none 0, .int .i64 1]) (by simp only [results, Tryz.results6, Tm.kind, Tm.n, Tm.name, Tm.args]; go_simp; exact ⟨rfl, rfl, rfl, rfl⟩) rfl ⟨by rw [HE.out]; exact ⟨none, 0, rfl, .nil _⟩, ?_⟩
    repeat first | exact HB1.out | refine Below.setCell ?_ hrw _ | refine Below.setCell ?_ hnw _
  · have HVT := Lib.hid hv
    have HC := Lib.hid (catch20_21 #[.pointer (some ⟨q, 0, none⟩), .pointer (some ⟨pn, 0, none⟩)] pn w1 HN1.out.lt _ _ (evalf21_any t A c q pn (catW w1) (validT_ok hv).1 hrg ((HK1.out.alloc _).alloc _) ((HN1.out.alloc _).alloc _) (ArgsNext (ArgsNext HA.out HB1.out) ((bAlloc w1 _).alloc (by simp) _))))
    clear hv
    go_wp2_with fail
    refine HC.out.mono ?_
    rintro e w3 ⟨w2, hz3, hk3, hK3, hz2, he⟩
    have hr3 : Blk w3 r 24 #[.int .i64 0, .int .i64 0, .string { data := #[] }, .slice none 0 0] := (hK3.block r HR1.out.lt (Ne.symm hnr)).trans HR1.out
    have hb3 : Below w.heap.size w w3 := HB1.out.trans (hK3.low hnw HB1.out.size)
    obtain ⟨n, b, A2, c2, code, rfl, hn3, ha3, hE⟩ : ∃ n b A2 c2 code, e = .returned (.tuple #[Tm.v b A2 c2, .int .i64 code]) ∧ Blk w3 pn 2 #[.int .i64 n] ∧ ArgsAt w3 (Btw w1.heap.size w3.heap.size) A2 b.args ∧ evT t = (n, b, code) := by
      rcases he with ⟨rfl, n, hvt, hn2⟩ | ⟨b, A2, c2, rfl, hvt, hn2, ha2⟩
      · exact ⟨n, _, _, _, _, rfl, (hk3 pn hn2.lt (by have := HN1.out.lt; omega) (by have := HN1.out.lt; omega)).trans hn2, .nil _, evT_ok HVT.out hvt⟩
      · refine ⟨0, b, A2, c2, 8, rfl, (hk3 pn hn2.lt (by have := HN1.out.lt; omega) (by have := HN1.out.lt; omega)).trans hn2, ha2.keep (fun g hg => ?_) (fun g hg => ?_), evT_err HVT.out hvt⟩
        · have := hg.1
          simp at this
          exact hk3 g hg.2 (by omega) (by omega)
        · have h1 := hg.1
          have h3 := hg.2
          simp at h1
          exact ⟨by omega, by omega⟩
    have HR3 := Lib.hid hr3
    have HN3 := Lib.hid hn3
    have HB3 := Lib.hid hb3
    have HA3 := Lib.hid ha3
    have HE := Lib.hid hE
    have hz1 := HB1.out.size
    have hl1 := HR1.out.lt
    have hl2 := HN1.out.lt
    clear he hr3 hb3 hn3 ha3 hE hk3 hK3 hz2 hz3 HC
    have r0 := HR3.out.cell 0
    have f0 := HR3.out.frozen 0
    have r1 := HR3.out.cell 1
    have f1 := HR3.out.frozen 1
    have r2 := HR3.out.cell 2
    have f2 := HR3.out.frozen 2
    have r3 := HR3.out.cell 3
    have f3 := HR3.out.frozen 3
    have rl := HR3.out.lt
    simp at r0 r1 r2 r3
    go_upto_region 4 with fail
    obtain ⟨w4, hw4⟩ : ∃ X, Hid (X = (((w3.setCell ⟨r, 0, none⟩ (.int .i64 b.kind)).setCell ⟨r, 1, none⟩ (.int .i64 b.n)).setCell ⟨r, 2, none⟩ (.string b.name)).setCell ⟨r, 3, none⟩ (.slice A2 b.args.length c2)) := ⟨_, rfl⟩
    rw [← hw4.out]
    have hr4 : Blk w4 r 24 #[.int .i64 b.kind, .int .i64 b.n, .string b.name, .slice A2 b.args.length c2] := by
      rw [hw4.out]
      have h := (((HR3.out.set_ 0 (.int .i64 b.kind)).set_ 1 (.int .i64 b.n)).set_ 2 (.string b.name)).set_ 3 (.slice A2 b.args.length c2)
      simpa using h
    have hn4 : Blk w4 pn 2 #[.int .i64 n] := by
      rw [hw4.out]
      exact (((HN3.out.far (p := ⟨r, 0, none⟩) hnr _).far (p := ⟨r, 1, none⟩) hnr _).far (p := ⟨r, 2, none⟩) hnr _).far (p := ⟨r, 3, none⟩) hnr _
    have hb4 : Below w.heap.size w w4 := by
      rw [hw4.out]
      repeat refine Below.setCell ?_ hrw _
      exact HB3.out
    have hz4 : w4.heap.size = w3.heap.size := by rw [hw4.out]; simp
    have hk4 : ∀ g, g ≠ r → w4.heap[g]? = w3.heap[g]? := fun g hg => by
      rw [hw4.out]
      repeat rw [heap_setCell_other _ _ _ _ (by simpa using hg)]
    have HB4 := Lib.hid hb4
    have HA4 := Lib.hid (show ArgsAt w4 (Btw w1.heap.size w4.heap.size) A2 b.args from HA3.out.keep (fun g hg => hk4 g (by have := hg.1; omega)) (fun g hg => ⟨hg.1, by have := hg.2; omega⟩))
    clear hw4 hb4 hz4 hk4 r0 r1 r2 r3 rl f0 f1 f2 f3
    obtain ⟨D, hD⟩ : ∃ X, Hid (X = w4.drew) := ⟨_, rfl⟩
    have hd : Below w4.heap.size w4 D := by rw [hD.out]; exact bDrewN (Below.refl _ _) 1
    have hS0 : (fun w' => Blk w' pn 2 #[.int .i64 n] ∧ Blk w' r 24 #[.int .i64 b.kind, .int .i64 b.n, .string b.name, .slice A2 b.args.length c2]) D := ⟨BlkNext hn4 hd, BlkNext hr4 hd⟩
    refine wp_region_N (fun w' => Blk w' pn 2 #[.int .i64 n] ∧ Blk w' r 24 #[.int .i64 b.kind, .int .i64 b.n, .string b.name, .slice A2 b.args.length c2]) (fun _ => true) (by kernel_rfl) ?_
    rw [← hD.out]
    have HD0 := Lib.hid hd
    have hD5 := Lib.hid hD.out
    clear hD hd
    refine wpAnyN_take (i := 0) (v := ?v1) rfl (by kernel_rfl) (by kernel_rfl) (by kernel_rfl) (by kernel_rfl) (fun _ _ _ h => h) (Or.inl ⟨by rfl, ?hy1⟩) (by assumption) ?_
    case hy1 => intro w hSw; obtain ⟨b1, b2⟩ := hSw; have n0 := b1.cell 0; have p0 := b2.cell 0; have p1 := b2.cell 1; have p2 := b2.cell 2; have p3 := b2.cell 3; simp at n0 p0 p1 p2 p3; go_simp; try with_reducible rfl
    simp only [Act.put, List.getElem_toArray, List.getElem_cons_zero, List.setIfInBounds_toArray, List.set_cons_zero, List.set_cons_succ]
    refine wpAnyN_take (i := 1) (v := ?v2) rfl (by kernel_rfl) (by kernel_rfl) (by kernel_rfl) (by kernel_rfl) (fun _ _ _ h => h) (Or.inl ⟨by rfl, ?hy2⟩) (by assumption) ?_
    case hy2 => intro w hSw; obtain ⟨b1, b2⟩ := hSw; have n0 := b1.cell 0; have p0 := b2.cell 0; have p1 := b2.cell 1; have p2 := b2.cell 2; have p3 := b2.cell 3; simp at n0 p0 p1 p2 p3; go_simp; try with_reducible rfl
    simp only [Act.put, List.getElem_toArray, List.getElem_cons_zero, List.getElem_cons_succ, List.setIfInBounds_toArray, List.set_cons_zero, List.set_cons_succ]
    refine wpAnyN_take (i := 2) (v := ?v3) rfl (by kernel_rfl) (by kernel_rfl) (by kernel_rfl) (by kernel_rfl) (fun _ _ _ h => h) (Or.inl ⟨by rfl, ?hy3⟩) (by assumption) ?_
    case hy3 => intro w hSw; (try dsimp only at hSw); go_simp; try with_reducible rfl
    simp only [Act.put, List.getElem_toArray, List.getElem_cons_zero, List.getElem_cons_succ, List.setIfInBounds_toArray, List.set_cons_zero, List.set_cons_succ]
    have HS0 := Lib.hid hS0
    have s0 := hS0.1.cell 0
    have g0 := hS0.1.frozen 0
    have sl := hS0.1.lt
    simp at s0
    refine wpAnyN_one (i := 3) (by kernel_rfl) rfl (fun K hK => ?_)
    simp only [List.getElem_toArray, List.getElem_cons_zero, List.getElem_cons_succ]
    go_simp
    have hS1 : (fun w' => Blk w' pn 2 #[.int .i64 n] ∧ Blk w' r 24 #[.int .i64 b.kind, .int .i64 b.n, .string b.name, .slice A2 b.args.length c2]) (D.setCell ⟨pn, 0, none⟩ (.int .i64 n)) := ⟨by simpa using HS0.out.1.set_ 0 (.int .i64 n), HS0.out.2.far (p := ⟨pn, 0, none⟩) (Ne.symm hnr) _⟩
    refine hK _ _ (fun _ => hS1) ?_
    clear s0 g0 sl hS0
    obtain ⟨E, hE5⟩ : ∃ X, Hid (X = D.setCell ⟨pn, 0, none⟩ (.int .i64 n)) := ⟨_, rfl⟩
    rw [← hE5.out] at hS1 ⊢
    have HE1 := Lib.hid hS1
    (try simp only [Act.put, List.setIfInBounds_toArray, List.set_cons_zero, List.set_cons_succ])
    have r0 := hS1.2.cell 0
    have r1 := hS1.2.cell 1
    have r2 := hS1.2.cell 2
    have r3 := hS1.2.cell 3
    have f0 := hS1.2.frozen 0
    have f1 := hS1.2.frozen 1
    have f2 := hS1.2.frozen 2
    have f3 := hS1.2.frozen 3
    have rl := hS1.2.lt
    simp at r0 r1 r2 r3
    refine wpAnyN_one (i := 4) (by kernel_rfl) rfl (fun K hK => ?_)
    simp only [List.getElem_toArray, List.getElem_cons_zero, List.getElem_cons_succ]
    go_simp
    obtain ⟨F, hF5⟩ : ∃ X, Hid (X = (((E.setCell ⟨r, 0, none⟩ (.int .i64 b.kind)).setCell ⟨r, 1, none⟩ (.int .i64 b.n)).setCell ⟨r, 2, none⟩ (.string b.name)).setCell ⟨r, 3, none⟩ (.slice A2 b.args.length c2)) := ⟨_, rfl⟩
    rw [← hF5.out]
    have hS2 : (fun w' => Blk w' pn 2 #[.int .i64 n] ∧ Blk w' r 24 #[.int .i64 b.kind, .int .i64 b.n, .string b.name, .slice A2 b.args.length c2]) F := by
      rw [hF5.out]
      refine ⟨(((HE1.out.1.far (p := ⟨r, 0, none⟩) hnr _).far (p := ⟨r, 1, none⟩) hnr _).far (p := ⟨r, 2, none⟩) hnr _).far (p := ⟨r, 3, none⟩) hnr _, ?_⟩
      have h := (((HE1.out.2.set_ 0 (.int .i64 b.kind)).set_ 1 (.int .i64 b.n)).set_ 2 (.string b.name)).set_ 3 (.slice A2 b.args.length c2)
      simpa using h
    refine hK _ _ (fun _ => hS2) ?_
    have hzF : F.heap.size = w4.heap.size := by rw [hF5.out, hE5.out]; have := hD5.out; simp [this]
    have hkF : ∀ g, g ≠ r → g ≠ pn → F.heap[g]? = w4.heap[g]? := fun g h1 h2 => by
      rw [hF5.out]
      repeat rw [heap_setCell_other _ _ _ _ (by simpa using h1)]
      rw [hE5.out, heap_setCell_other _ _ _ _ (by simpa using h2), hD5.out]
      rfl
    have hbF : Below w.heap.size w F := by
      rw [hF5.out, hE5.out]
      repeat refine Below.setCell ?_ hrw _
      refine Below.setCell ?_ hnw _
      exact HB4.out.trans (HD0.out.mono HB4.out.size)
    have HAF := Lib.hid (HA4.out.keep (w' := F) (G := Btw w1.heap.size F.heap.size) (fun g hg => hkF g (by have := hg.1; omega) (by have := hg.1; omega)) (fun g hg => ⟨hg.1, by have := hg.2; omega⟩))
    have HBF := Lib.hid hbF
    have HR5 := Lib.hid hS2.2
    have HN5 := Lib.hid hS2.1
    clear hF5 hE5 hD5 hzF hkF hbF r0 r1 r2 r3 f0 f1 f2 f3 rl hS1
    (try simp only [Act.put, List.setIfInBounds_toArray, List.set_cons_zero, List.set_cons_succ])
    refine wpAnyN_take (i := 5) (v := ?v4) rfl (by kernel_rfl) (by kernel_rfl) (by kernel_rfl) (by kernel_rfl) (fun _ _ _ h => h) (Or.inl ⟨by rfl, ?hy4⟩) (by assumption) ?_
    case hy4 => intro w hSw; (try dsimp only at hSw); go_simp; try with_reducible rfl
    simp only [Act.put, List.getElem_toArray, List.getElem_cons_zero, List.getElem_cons_succ, List.setIfInBounds_toArray, List.set_cons_zero, List.set_cons_succ]
    refine wpAnyN_done (by kernel_rfl) ?_ _
    clear hS2
    have r0 := HR5.out.cell 0
    have f0 := HR5.out.frozen 0
    have r1 := HR5.out.cell 1
    have f1 := HR5.out.frozen 1
    have r2 := HR5.out.cell 2
    have f2 := HR5.out.frozen 2
    have r3 := HR5.out.cell 3
    have f3 := HR5.out.frozen 3
    have rl := HR5.out.lt
    simp at r0 r1 r2 r3
    have s0 := HN5.out.cell 0
    simp at s0
    go_wp2_with fail
    refine bodyPost_ret (v := .tuple #[.int .i64 n, Tm.v b A2 c2, .int .i64 code]) (by simp only [results, Tryz.results6]; go_simp) rfl ⟨by rw [HE.out]; exact ⟨A2, c2, rfl, HAF.out.keep (fun _ _ => rfl) (fun g hg => ⟨by have := hg.1; omega, hg.2⟩)⟩, HBF.out⟩
end Go.Proofs.YtcagaaacfcpoeaaGreat
