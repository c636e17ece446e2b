/-
  Walks: catch.
-/
import Derived.Test.YtcagaaacfcpoeaaGreatCl
namespace Go.Proofs.YtcagaaacfcpoeaaGreat
open Go.RowKit

/-- the world in which catch calls its function -/
@[reducible] def catW (w : World) : World := (w.alloc (.cells #[.int .i64 0, .int .i64 0, .string { data := #[] }, .slice none 0 0] 24)).alloc (.cells #[.int .i64 0] 25)
set_option maxHeartbeats 2000000 in
theorem catch20_21 (cap : Array Value) (m : Nat) (w : World) (hm : m < w.heap.size) (P : World → Prop) (Q : Tm → Option Addr → Nat → World → Prop)
    (hc : Calls Tryz.prog 23 cap (catW w) fun e w2 => ((e = .returned (.tuple #[]) ∧ P w2) ∨ ∃ b A c, e = .panicked [{ v := .iface 65 (Tm.v b A c), recovered := false }] ∧ Q b A c w2) ∧ KeptQ m (catW w) w2) :
    Calls Tryz.prog 22 #[.func (.func 23) #[] cap] w fun e w' => ∃ w2, w2.heap.size ≤ w'.heap.size ∧ (∀ g, g < w2.heap.size → g ≠ w.heap.size → g ≠ w.heap.size + 1 → w'.heap[g]? = w2.heap[g]?) ∧ KeptQ m w w' ∧ w.heap.size + 2 ≤ w2.heap.size ∧
      ((e = .returned (.tuple #[Tm.v zeroT none 0, .int .i64 0]) ∧ P w2) ∨ ∃ b A c, e = .returned (.tuple #[Tm.v b A c, .int .i64 8]) ∧ Q b A c w2) := by
  have hmf : ∀ (fn : Fn) (first cap : Array Value) (w : World), (Instr.makeFunc fn first cap).run Tryz.prog w = .ok (.func fn first cap) w := fun _ _ _ _ => rfl
  have HC := Lib.hid hc
  clear hc
  obtain ⟨p, hp⟩ : ∃ q, Hid (q = w.heap.size) := ⟨_, rfl⟩
  obtain ⟨q, hq⟩ : ∃ q, Hid (q = w.heap.size + 1) := ⟨_, rfl⟩
  go_enter_defers Tryz.func22, Tryz.ntmps22
  go_wp2_with fail
  refine HC.out.mono ?_
  rintro e w2 ⟨h, hk⟩
  have hz2 := hk.size
  simp at hz2
  have hkp : Blk w2 p 24 #[.int .i64 0, .int .i64 0, .string { data := #[] }, .slice none 0 0] := (hk.block p (by rw [hp.out]; simp; omega) (by rw [hp.out]; omega)).trans (by rw [hp.out]; exact (Blk.new w 24 _).alloc _)
  have hkq : Blk w2 q 25 #[.int .i64 0] := (hk.block q (by rw [hq.out]; simp) (by rw [hq.out]; omega)).trans (by rw [hq.out]; have h := Blk.new (w.alloc (.cells #[.int .i64 0, .int .i64 0, .string { data := #[] }, .slice none 0 0] 24)) 25 #[.int .i64 0]; rwa [World.size_alloc] at h)
  have hpq : p ≠ q := by rw [hp.out, hq.out]; omega
  have hmp : m ≠ p := by rw [hp.out]; omega
  have hmq : m ≠ q := by rw [hq.out]; omega
  have hwk : KeptQ m w w2 := (KeptQ.of ((bAlloc w _).alloc (by simp) _)).trans hk
  have r0 := hkp.cell 0
  have r1 := hkp.cell 1
  have r2 := hkp.cell 2
  have r3 := hkp.cell 3
  have s0 := hkq.cell 0
  have f0 := hkp.frozen 0
  have f1 := hkp.frozen 1
  have f2 := hkp.frozen 2
  have f3 := hkp.frozen 3
  have g0 := hkq.frozen 0
  have pl := hkp.lt
  have ql := hkq.lt
  simp at r0 r1 r2 r3 s0
  rw [← hq.out, ← hp.out]
  have HKP := Lib.hid hkp
  have HKQ := Lib.hid hkq
  have HWK := Lib.hid hwk
  clear hkp hkq hwk hk
  rcases h with ⟨rfl, hP⟩ | ⟨b, A, c, rfl, hQ⟩
  · go_wp2_with fail
    obtain ⟨w3, hw3⟩ : ∃ X, Hid (X = ((((w2.setCell ⟨p, 0, none⟩ (.int .i64 0)).setCell ⟨p, 1, none⟩ (.int .i64 0)).setCell ⟨p, 2, none⟩ (.string { data := #[] })).setCell ⟨p, 3, none⟩ (.slice none 0 0)).setCell ⟨q, 0, none⟩ (.int .i64 0)) := ⟨_, rfl⟩
    rw [← hw3.out]
    have h3z : w3.heap.size = w2.heap.size := by rw [hw3.out]; simp
    have h3k : ∀ g, g ≠ p → g ≠ q → w3.heap[g]? = w2.heap[g]? := fun g h1 h2 => by
      rw [hw3.out, heap_setCell_other _ _ _ _ (by simpa using h2)]
      repeat rw [heap_setCell_other _ _ _ _ (by simpa using h1)]
    have h3Q : KeptQ m w w3 := by
      rw [hw3.out]
      exact ((((HWK.out.set (by rw [hp.out]; exact Nat.le_refl _) _).set (by rw [hp.out]; exact Nat.le_refl _) _).set (by rw [hp.out]; exact Nat.le_refl _) _).set (by rw [hp.out]; exact Nat.le_refl _) _).set (by rw [hq.out]; simp) _
    have h3p : Blk w3 p 24 #[.int .i64 0, .int .i64 0, .string { data := #[] }, .slice none 0 0] := by
      rw [hw3.out]
      refine Blk.far ?_ (by simpa using hpq) _
      have h := (((HKP.out.set_ 0 (.int .i64 0)).set_ 1 (.int .i64 0)).set_ 2 (.string { data := #[] })).set_ 3 (.slice none 0 0)
      simpa using h
    have h3q : Blk w3 q 25 #[.int .i64 0] := by
      rw [hw3.out]
      have h := (((((HKQ.out.far (p := ⟨p, 0, none⟩) (Ne.symm hpq) (.int .i64 0)).far (p := ⟨p, 1, none⟩) (Ne.symm hpq) (.int .i64 0)).far (p := ⟨p, 2, none⟩) (Ne.symm hpq) (.string { data := #[] })).far (p := ⟨p, 3, none⟩) (Ne.symm hpq) (.slice none 0 0)).set_ 0 (.int .i64 0))
      simpa using h
    show Leaves _ _ _ _ _ _ _
    refine leaves_cons (f := 59) (args := #[.pointer (some ⟨p, 0, none⟩), .pointer (some ⟨q, 0, none⟩)]) (by simp) (by simp [go_sem]) ?_
    refine (catch43_idle ⟨p, 0, none⟩ ⟨q, 0, none⟩ w3).mono ?_
    rintro e u' w4 ⟨rfl, rfl, hb4⟩
    have h4p := h3p.below hb4 h3p.lt
    have h4q := h3q.below hb4 h3q.lt
    have r0 := h4p.cell 0
    have r1 := h4p.cell 1
    have r2 := h4p.cell 2
    have r3 := h4p.cell 3
    have s0 := h4q.cell 0
    simp at r0 r1 r2 r3 s0
    refine ⟨.tuple #[Tm.v zeroT none 0, .int .i64 0], by simp only [results, Tryz.results22]; go_simp; exact ⟨rfl, rfl, rfl, rfl⟩, ?_⟩
    refine ⟨w2, by have := hb4.size; omega, fun g h1 h2 h3 => (hb4.block g (by omega)).trans (h3k g (by rw [hp.out]; exact h2) (by rw [hq.out]; exact h3)), h3Q.trans (KeptQ.of hb4), by omega, .inl ⟨rfl, hP⟩⟩
  · show Leaves _ _ _ _ _ _ _
    refine leaves_cons (f := 59) (args := #[.pointer (some ⟨p, 0, none⟩), .pointer (some ⟨q, 0, none⟩)]) (by simp) (by simp [go_sem]) ?_
    refine (catch43_rec p q b A c w2 hpq HKP.out HKQ.out).mono ?_
    rintro e u' w3 ⟨rfl, rfl, h3⟩
    have hw3 := Lib.hid h3
    clear h3
    have h3k : ∀ g, g < w2.heap.size → g ≠ p → g ≠ q → w3.heap[g]? = w2.heap[g]? := fun g h0 h1 h2 => by
      rw [hw3.out, Below.heap_alloc _ _ g (by simpa using h0), heap_setCell_other _ _ _ _ (by simpa using h2)]
      repeat rw [heap_setCell_other _ _ _ _ (by simpa using h1)]
    have h3z : w2.heap.size ≤ w3.heap.size := by rw [hw3.out]; simp
    have h3Q : KeptQ m w w3 := by
      rw [hw3.out]
      exact (((((HWK.out.set (by rw [hp.out]; exact Nat.le_refl _) _).set (by rw [hp.out]; exact Nat.le_refl _) _).set (by rw [hp.out]; exact Nat.le_refl _) _).set (by rw [hp.out]; exact Nat.le_refl _) _).set (by rw [hq.out]; simp) _).trans (KeptQ.of (bAlloc _ _))
    have h4p : Blk w3 p 24 #[.int .i64 b.kind, .int .i64 b.n, .string b.name, .slice A b.args.length c] := by
      rw [hw3.out]
      refine Blk.alloc (Blk.far ?_ (by simpa using hpq) _) _
      have h := (((HKP.out.set_ 0 (.int .i64 b.kind)).set_ 1 (.int .i64 b.n)).set_ 2 (.string b.name)).set_ 3 (.slice A b.args.length c)
      simpa using h
    have h4q : Blk w3 q 25 #[.int .i64 8] := by
      rw [hw3.out]
      have h := ((((((HKQ.out.far (p := ⟨p, 0, none⟩) (Ne.symm hpq) (.int .i64 b.kind)).far (p := ⟨p, 1, none⟩) (Ne.symm hpq) (.int .i64 b.n)).far (p := ⟨p, 2, none⟩) (Ne.symm hpq) (.string b.name)).far (p := ⟨p, 3, none⟩) (Ne.symm hpq) (.slice A b.args.length c)).set_ 0 (.int .i64 8))).alloc (.cells #[.int .i64 b.kind, .int .i64 b.n, .string b.name, .slice A b.args.length c] 65)
      simpa using h
    clear r0 r1 r2 r3 s0
    have r0 := h4p.cell 0
    have r1 := h4p.cell 1
    have r2 := h4p.cell 2
    have r3 := h4p.cell 3
    have s0 := h4q.cell 0
    simp at r0 r1 r2 r3 s0
    refine ⟨.tuple #[Tm.v b A c, .int .i64 8], by simp only [results, Tryz.results22]; go_simp, ?_⟩
    refine ⟨w2, h3z, fun g h1 h2 h3 => h3k g h1 (by rw [hp.out]; exact h2) (by rw [hq.out]; exact h3), h3Q, by omega, .inr ⟨b, A, c, rfl, hQ⟩⟩
set_option maxHeartbeats 2000000 in
theorem catch20_35 (cap : Array Value) (m : Nat) (w : World) (hm : m < w.heap.size) (P : World → Prop) (Q : Tm → Option Addr → Nat → World → Prop)
    (hc : Calls Tryz.prog 32 cap (catW w) fun e w2 => ((e = .returned (.tuple #[]) ∧ P w2) ∨ ∃ b A c, e = .panicked [{ v := .iface 65 (Tm.v b A c), recovered := false }] ∧ Q b A c w2) ∧ KeptQ m (catW w) w2) :
    Calls Tryz.prog 22 #[.func (.func 32) #[] cap] w fun e w' => ∃ w2, w2.heap.size ≤ w'.heap.size ∧ (∀ g, g < w2.heap.size → g ≠ w.heap.size → g ≠ w.heap.size + 1 → w'.heap[g]? = w2.heap[g]?) ∧ KeptQ m w w' ∧ w.heap.size + 2 ≤ w2.heap.size ∧
      ((e = .returned (.tuple #[Tm.v zeroT none 0, .int .i64 0]) ∧ P w2) ∨ ∃ b A c, e = .returned (.tuple #[Tm.v b A c, .int .i64 8]) ∧ Q b A c w2) := by
  have hmf : ∀ (fn : Fn) (first cap : Array Value) (w : World), (Instr.makeFunc fn first cap).run Tryz.prog w = .ok (.func fn first cap) w := fun _ _ _ _ => rfl
  have HC := Lib.hid hc
  clear hc
  obtain ⟨p, hp⟩ : ∃ q, Hid (q = w.heap.size) := ⟨_, rfl⟩
  obtain ⟨q, hq⟩ : ∃ q, Hid (q = w.heap.size + 1) := ⟨_, rfl⟩
  go_enter_defers Tryz.func22, Tryz.ntmps22
  go_wp2_with fail
  refine HC.out.mono ?_
  rintro e w2 ⟨h, hk⟩
  have hz2 := hk.size
  simp at hz2
  have hkp : Blk w2 p 24 #[.int .i64 0, .int .i64 0, .string { data := #[] }, .slice none 0 0] := (hk.block p (by rw [hp.out]; simp; omega) (by rw [hp.out]; omega)).trans (by rw [hp.out]; exact (Blk.new w 24 _).alloc _)
  have hkq : Blk w2 q 25 #[.int .i64 0] := (hk.block q (by rw [hq.out]; simp) (by rw [hq.out]; omega)).trans (by rw [hq.out]; have h := Blk.new (w.alloc (.cells #[.int .i64 0, .int .i64 0, .string { data := #[] }, .slice none 0 0] 24)) 25 #[.int .i64 0]; rwa [World.size_alloc] at h)
  have hpq : p ≠ q := by rw [hp.out, hq.out]; omega
  have hmp : m ≠ p := by rw [hp.out]; omega
  have hmq : m ≠ q := by rw [hq.out]; omega
  have hwk : KeptQ m w w2 := (KeptQ.of ((bAlloc w _).alloc (by simp) _)).trans hk
  have r0 := hkp.cell 0
  have r1 := hkp.cell 1
  have r2 := hkp.cell 2
  have r3 := hkp.cell 3
  have s0 := hkq.cell 0
  have f0 := hkp.frozen 0
  have f1 := hkp.frozen 1
  have f2 := hkp.frozen 2
  have f3 := hkp.frozen 3
  have g0 := hkq.frozen 0
  have pl := hkp.lt
  have ql := hkq.lt
  simp at r0 r1 r2 r3 s0
  rw [← hq.out, ← hp.out]
  have HKP := Lib.hid hkp
  have HKQ := Lib.hid hkq
  have HWK := Lib.hid hwk
  clear hkp hkq hwk hk
  rcases h with ⟨rfl, hP⟩ | ⟨b, A, c, rfl, hQ⟩
  · go_wp2_with fail
    obtain ⟨w3, hw3⟩ : ∃ X, Hid (X = ((((w2.setCell ⟨p, 0, none⟩ (.int .i64 0)).setCell ⟨p, 1, none⟩ (.int .i64 0)).setCell ⟨p, 2, none⟩ (.string { data := #[] })).setCell ⟨p, 3, none⟩ (.slice none 0 0)).setCell ⟨q, 0, none⟩ (.int .i64 0)) := ⟨_, rfl⟩
    rw [← hw3.out]
    have h3z : w3.heap.size = w2.heap.size := by rw [hw3.out]; simp
    have h3k : ∀ g, g ≠ p → g ≠ q → w3.heap[g]? = w2.heap[g]? := fun g h1 h2 => by
      rw [hw3.out, heap_setCell_other _ _ _ _ (by simpa using h2)]
      repeat rw [heap_setCell_other _ _ _ _ (by simpa using h1)]
    have h3Q : KeptQ m w w3 := by
      rw [hw3.out]
      exact ((((HWK.out.set (by rw [hp.out]; exact Nat.le_refl _) _).set (by rw [hp.out]; exact Nat.le_refl _) _).set (by rw [hp.out]; exact Nat.le_refl _) _).set (by rw [hp.out]; exact Nat.le_refl _) _).set (by rw [hq.out]; simp) _
    have h3p : Blk w3 p 24 #[.int .i64 0, .int .i64 0, .string { data := #[] }, .slice none 0 0] := by
      rw [hw3.out]
      refine Blk.far ?_ (by simpa using hpq) _
      have h := (((HKP.out.set_ 0 (.int .i64 0)).set_ 1 (.int .i64 0)).set_ 2 (.string { data := #[] })).set_ 3 (.slice none 0 0)
      simpa using h
    have h3q : Blk w3 q 25 #[.int .i64 0] := by
      rw [hw3.out]
      have h := (((((HKQ.out.far (p := ⟨p, 0, none⟩) (Ne.symm hpq) (.int .i64 0)).far (p := ⟨p, 1, none⟩) (Ne.symm hpq) (.int .i64 0)).far (p := ⟨p, 2, none⟩) (Ne.symm hpq) (.string { data := #[] })).far (p := ⟨p, 3, none⟩) (Ne.symm hpq) (.slice none 0 0)).set_ 0 (.int .i64 0))
      simpa using h
    show Leaves _ _ _ _ _ _ _
    refine leaves_cons (f := 59) (args := #[.pointer (some ⟨p, 0, none⟩), .pointer (some ⟨q, 0, none⟩)]) (by simp) (by simp [go_sem]) ?_
    refine (catch43_idle ⟨p, 0, none⟩ ⟨q, 0, none⟩ w3).mono ?_
    rintro e u' w4 ⟨rfl, rfl, hb4⟩
    have h4p := h3p.below hb4 h3p.lt
    have h4q := h3q.below hb4 h3q.lt
    have r0 := h4p.cell 0
    have r1 := h4p.cell 1
    have r2 := h4p.cell 2
    have r3 := h4p.cell 3
    have s0 := h4q.cell 0
    simp at r0 r1 r2 r3 s0
    refine ⟨.tuple #[Tm.v zeroT none 0, .int .i64 0], by simp only [results, Tryz.results22]; go_simp; exact ⟨rfl, rfl, rfl, rfl⟩, ?_⟩
    refine ⟨w2, by have := hb4.size; omega, fun g h1 h2 h3 => (hb4.block g (by omega)).trans (h3k g (by rw [hp.out]; exact h2) (by rw [hq.out]; exact h3)), h3Q.trans (KeptQ.of hb4), by omega, .inl ⟨rfl, hP⟩⟩
  · show Leaves _ _ _ _ _ _ _
    refine leaves_cons (f := 59) (args := #[.pointer (some ⟨p, 0, none⟩), .pointer (some ⟨q, 0, none⟩)]) (by simp) (by simp [go_sem]) ?_
    refine (catch43_rec p q b A c w2 hpq HKP.out HKQ.out).mono ?_
    rintro e u' w3 ⟨rfl, rfl, h3⟩
    have hw3 := Lib.hid h3
    clear h3
    have h3k : ∀ g, g < w2.heap.size → g ≠ p → g ≠ q → w3.heap[g]? = w2.heap[g]? := fun g h0 h1 h2 => by
      rw [hw3.out, Below.heap_alloc _ _ g (by simpa using h0), heap_setCell_other _ _ _ _ (by simpa using h2)]
      repeat rw [heap_setCell_other _ _ _ _ (by simpa using h1)]
    have h3z : w2.heap.size ≤ w3.heap.size := by rw [hw3.out]; simp
    have h3Q : KeptQ m w w3 := by
      rw [hw3.out]
      exact (((((HWK.out.set (by rw [hp.out]; exact Nat.le_refl _) _).set (by rw [hp.out]; exact Nat.le_refl _) _).set (by rw [hp.out]; exact Nat.le_refl _) _).set (by rw [hp.out]; exact Nat.le_refl _) _).set (by rw [hq.out]; simp) _).trans (KeptQ.of (bAlloc _ _))
    have h4p : Blk w3 p 24 #[.int .i64 b.kind, .int .i64 b.n, .string b.name, .slice A b.args.length c] := by
      rw [hw3.out]
      refine Blk.alloc (Blk.far ?_ (by simpa using hpq) _) _
      have h := (((HKP.out.set_ 0 (.int .i64 b.kind)).set_ 1 (.int .i64 b.n)).set_ 2 (.string b.name)).set_ 3 (.slice A b.args.length c)
      simpa using h
    have h4q : Blk w3 q 25 #[.int .i64 8] := by
      rw [hw3.out]
      have h := ((((((HKQ.out.far (p := ⟨p, 0, none⟩) (Ne.symm hpq) (.int .i64 b.kind)).far (p := ⟨p, 1, none⟩) (Ne.symm hpq) (.int .i64 b.n)).far (p := ⟨p, 2, none⟩) (Ne.symm hpq) (.string b.name)).far (p := ⟨p, 3, none⟩) (Ne.symm hpq) (.slice A b.args.length c)).set_ 0 (.int .i64 8))).alloc (.cells #[.int .i64 b.kind, .int .i64 b.n, .string b.name, .slice A b.args.length c] 65)
      simpa using h
    clear r0 r1 r2 r3 s0
    have r0 := h4p.cell 0
    have r1 := h4p.cell 1
    have r2 := h4p.cell 2
    have r3 := h4p.cell 3
    have s0 := h4q.cell 0
    simp at r0 r1 r2 r3 s0
    refine ⟨.tuple #[Tm.v b A c, .int .i64 8], by simp only [results, Tryz.results22]; go_simp, ?_⟩
    refine ⟨w2, h3z, fun g h1 h2 h3 => h3k g h1 (by rw [hp.out]; exact h2) (by rw [hq.out]; exact h3), h3Q, by omega, .inr ⟨b, A, c, rfl, hQ⟩⟩
end Go.Proofs.YtcagaaacfcpoeaaGreat
