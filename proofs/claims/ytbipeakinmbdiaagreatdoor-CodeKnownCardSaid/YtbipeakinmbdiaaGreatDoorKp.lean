/-
  Walks: the end of a reading that failed; a whole line is read. Walk: the first line of a block is read.
-/
import Derived.Test.YtbipeakinmbdiaaGreatDoorKo
import Derived.Defers
import Derived.Test.YtbipeakinmbdiaaGreatDoorKf
namespace Go.Proofs.YtbipeakinmbdiaaGreatDoor
section
open Go.RowKit

/-- all blocks but some are kept -/
structure KeptS (P : Nat → Prop) (w w' : World) : Prop where
  os : w'.os = w.os
  tape : w'.tape = w.tape
  output : w'.output = w.output
  size : w.heap.size ≤ w'.heap.size
  block : ∀ i, i < w.heap.size → ¬ P i → w'.heap[i]? = w.heap[i]?
theorem KeptS.of {P : Nat → Prop} {w w' : World} (h : Below w.heap.size w w') : KeptS P w w' := ⟨h.os, h.tape, h.output, h.size, fun i hi _ => h.block i hi⟩
theorem KeptS.ofQ {P : Nat → Prop} {q : Nat} {w w' : World} (h : KeptQ q w w') (hq : P q) : KeptS P w w' := ⟨h.os, h.tape, h.output, h.size, fun i hi hn => h.block i hi (fun e => hn (e ▸ hq))⟩
theorem KeptS.trans {P : Nat → Prop} {w w1 w2 : World} (h : KeptS P w w1) (j : KeptS P w1 w2) : KeptS P w w2 :=
  ⟨j.os.trans h.os, j.tape.trans h.tape, j.output.trans h.output, Nat.le_trans h.size j.size, fun i hi h1 => (j.block i (Nat.lt_of_lt_of_le hi h.size) h1).trans (h.block i hi h1)⟩
theorem KeptS.more {P Q : Nat → Prop} {w w1 : World} (h : KeptS P w w1) (hs : ∀ i, i < w.heap.size → P i → Q i) : KeptS Q w w1 :=
  ⟨h.os, h.tape, h.output, h.size, fun i hi h1 => h.block i hi (fun e => h1 (hs i hi e))⟩
theorem KeptS.set {P : Nat → Prop} {w w1 : World} (h : KeptS P w w1) {p : Addr} (hp : P p.block ∨ w.heap.size ≤ p.block) (v : Value) : KeptS P w (w1.setCell p v) := by
  have hb : Below 0 w1 (w1.setCell p v) := (Below.refl _ _).setCell (Nat.zero_le _) _
  refine ⟨hb.os.trans h.os, hb.tape.trans h.tape, hb.output.trans h.output, Nat.le_trans h.size hb.size, fun i hi h1 => (heap_setCell_other _ _ _ _ ?_).trans (h.block i hi h1)⟩
  rcases hp with e | e
  · intro e2; exact h1 (e2 ▸ e)
  · omega
theorem KeptS.blk {P : Nat → Prop} {g : Nat} {w w' : World} {t : TypeId} {cs : Array Value} (h : KeptS P w w') (hb : Blk w g t cs) (hg : ¬ P g) : Blk w' g t cs := (h.block g hb.lt hg).trans hb
theorem bad_nil (w : World) : (Instr.typeAssert Value.nilIface 20 119 true).run Tryz.prog w = .ok (.tuple #[.agg #[], .bool false]) w := by kernel_rfl
theorem bad_raised (w : World) : (Instr.typeAssert (Value.iface 119 (.agg #[])) 20 119 true).run Tryz.prog w = .ok (.tuple #[.agg #[], .bool true]) w := by kernel_rfl
set_option maxRecDepth 100000 in
set_option maxHeartbeats 2000000 in
theorem rec81_idle (p : Addr) (w : World) : CallsD Tryz.prog 81 #[.pointer (some p)] .returning w fun e u' w' => e = .returned (.tuple #[]) ∧ u' = .returning ∧ Below w.heap.size w w' := by
  refine callsD_of_wpS Tryz.func81 rfl fun c₀ cs hu => ?_
  show Code.wpS Tryz.prog _ _ { tmps := #[.pointer (some p), undef, undef, undef, undef, undef, undef, undef, undef], defers := [] } _ _
  apply wpS_seq
  apply wpS_region
  simp [wpOpsS, go_sem, recoverD, hu, Exit.thenS]
  refine wpS_of_wp ?_
  have hA := bad_nil
  go_wp2
  refine ⟨rfl, .returning, ?_, .tuple #[], by simp [results, Tryz.results81, go_sem], rfl, rfl, ?_⟩
  · cases c₀
    simp only at hu
    rw [hu]
  · exact bAlloc _ _
set_option maxRecDepth 100000 in
set_option maxHeartbeats 2000000 in
theorem rec81_rec (p : Nat) (z : Bool) (w : World) (hp : Blk w p 4 #[.bool z]) :
    CallsD Tryz.prog 81 #[.pointer (some ⟨p, 0, none⟩)] (.panicking [{ v := .iface 119 (.agg #[]), recovered := false }]) w fun e u' w' => e = .returned (.tuple #[]) ∧ u' = .panicking [{ v := .iface 119 (.agg #[]), recovered := true }] ∧
      w' = (w.alloc (.cells #[] 119)).setCell ⟨p, 0, none⟩ (.bool false) := by
  refine callsD_of_wpS Tryz.func81 rfl fun c₀ cs hu => ?_
  show Code.wpS Tryz.prog _ _ { tmps := #[.pointer (some ⟨p, 0, none⟩), undef, undef, undef, undef, undef, undef, undef, undef], defers := [] } _ _
  have s0 := (hp.alloc (.cells #[] 119)).cell 0
  have g0 := (hp.alloc (.cells #[] 119)).frozen 0
  have pl := (hp.alloc (.cells #[] 119)).lt
  simp at s0
  clear hp
  apply wpS_seq
  apply wpS_region
  simp [wpOpsS, go_sem, recoverD, hu, Exit.thenS]
  refine wpS_of_wp ?_
  have hA := bad_raised
  go_wp2
  refine ⟨rfl, .panicking [{ v := .iface 119 (.agg #[]), recovered := true }], ?_, .tuple #[], ?_, ?_, ?_, ?_⟩
  · rfl
  · simp [results, Tryz.results81, go_sem]
  · rfl
  · rfl
  · rfl
set_option maxRecDepth 100000 in
set_option maxHeartbeats 4000000 in
theorem whole44 (B : Nat) (s : List UInt8) (w : World) (K : Nat → Prop) (R : Option (Bool × List UInt8) → World → Prop) (hE : Env w) (hs : s.length ≤ 1000000) (hS : ∀ g, K g → g < w.heap.size)
    (hc : ∀ (bl bx : Nat) (w1 : World), w.heap.size < bl → w.heap.size < bx → Below w.heap.size w w1 → RdAt w1 bl bx s → Calls Tryz.prog 44 #[rdV bl bx, .pointer (some ⟨B, 0, none⟩)] w1 fun e w2 => KeptS (fun g => K g ∨ g = bl) w1 w2 ∧
      ((∃ z r, e = .returned (.bool z) ∧ RdAt w2 bl bx r ∧ R (some (z, r)) w2) ∨ (e = badE ∧ R none w2))) :
    Calls Tryz.prog 43 #[.string (S s), .func (.func 44) #[] #[.pointer (some ⟨B, 0, none⟩)]] w fun e w' => ∃ o w2, R o w2 ∧ w2.heap.size ≤ w'.heap.size ∧ (∀ g, g < w2.heap.size → g ≠ w.heap.size → w'.heap[g]? = w2.heap[g]?) ∧ KeptS K w w' ∧
      e = .returned (.bool (match o with | some (z, r) => z && r.isEmpty | none => false)) := by
  have HC := Lib.hid hc
  have HE := Lib.hid hE
  have HSZ := Lib.hid hs
  have HS := Lib.hid hS
  have hmf : ∀ (fn : Fn) (first cap : Array Value) (w : World), (Instr.makeFunc fn first cap).run Tryz.prog w = .ok (.func fn first cap) w := fun _ _ _ _ => rfl
  clear hc hE hs hS
  obtain ⟨p, hp⟩ : ∃ q, Hid (q = w.heap.size) := ⟨_, rfl⟩
  go_enter_defers Tryz.func43, Tryz.ntmps43
  go_wp2_with fail
  obtain ⟨w0, hw0⟩ : ∃ X, Hid (X = w.alloc (.cells #[.bool false] 4)) := ⟨_, rfl⟩
  have HB0 := Lib.hid (show Below w.heap.size w w0 by rw [hw0.out]; exact bAlloc _ _)
  have HP0 := Lib.hid (show Blk w0 p 4 #[.bool false] by rw [hw0.out, hp.out]; exact Blk.new _ _ _)
  rw [← hw0.out, ← hp.out]
  clear hw0
  obtain ⟨bl, hbl⟩ : ∃ q, Hid (q = w0.heap.size) := ⟨_, rfl⟩
  obtain ⟨bx, hbx⟩ : ∃ q, Hid (q = w0.heap.size + 1 + 1) := ⟨_, rfl⟩
  refine (read_any s w0 (HE.out.next HB0.out) HSZ.out bl bx hbl.out hbx.out).mono ?_
  rintro e w1 ⟨rfl, hb1, hr1⟩
  have HR1 := Lib.hid hr1
  have HB1 := Lib.hid (bNext HB0.out hb1)
  have HP1 := Lib.hid (HP0.out.next hb1)
  have HLT := Lib.hid (show (p < bl ∧ p < bx) ∧ w.heap.size = p by
    have h1 := HP0.out.lt
    rw [hbl.out, hbx.out, hp.out] at *
    omega)
  have HPE := Lib.hid hp.out
  clear hb1 hr1 HP0 HB0 hp hbl hbx HE
  go_upto_region 3 with fail
  obtain ⟨q, hq⟩ : ∃ q, Hid (q = w1.heap.size) := ⟨_, rfl⟩
  obtain ⟨w2, hw2⟩ : ∃ X, Hid (X = w1.alloc (.cells (rdCs bl bx) 81)) := ⟨_, rfl⟩
  have HB2 := Lib.hid (show Below w.heap.size w w2 by rw [hw2.out]; exact HB1.out.alloc HB1.out.size _)
  have HQ2 := Lib.hid (show Blk w2 q 81 (rdCs bl bx) by rw [hw2.out, hq.out]; exact Blk.new _ _ _)
  have HP2 := Lib.hid (show Blk w2 p 4 #[.bool false] by rw [hw2.out]; exact HP1.out.alloc _)
  have HR2 := Lib.hid (show RdAt w2 bl bx s by rw [hw2.out]; exact HR1.out.boxed)
  have HLQ := Lib.hid (show bl < q ∧ bx < q by
    have h1 := HR1.out.ln.lt
    have h2 := HR1.out.fs.lt
    rw [hq.out]
    omega)
  rw [← hw2.out, ← hq.out]
  clear hw2 hq HB1 HP1 HR1
  have g0 := HQ2.out.cell 0
  have g1 := HQ2.out.cell 1
  have g2 := HQ2.out.cell 2
  have g3 := HQ2.out.cell 3
  have g4 := HQ2.out.cell 4
  have g5 := HQ2.out.cell 5
  have gl := HQ2.out.lt
  simp at g0 g1 g2 g3 g4 g5
  go_wp2_with fail
  refine (HC.out bl bx w2 (by have := HLT.out; omega) (by have := HLT.out; omega) HB2.out HR2.out).mono ?_
  rintro e w3 ⟨hk, h⟩
  have hnp : ¬ (K p ∨ p = bl) := by
    rintro (h1 | h1)
    · have := HS.out p h1; have := HLT.out; omega
    · have := HLT.out; omega
  have hnq : ¬ (K q ∨ q = bl) := by
    rintro (h1 | h1)
    · have := HS.out q h1; have := HLT.out; have := HLQ.out; omega
    · have := HLQ.out; omega
  have HP3 := Lib.hid (hk.blk HP2.out hnp)
  have HQ3 := Lib.hid (hk.blk HQ2.out hnq)
  have HK3 := Lib.hid (show KeptS K w w3 from ⟨hk.os.trans HB2.out.os, hk.tape.trans HB2.out.tape, hk.output.trans HB2.out.output, Nat.le_trans HB2.out.size hk.size, fun i hi hn =>
    (hk.block i (by have := HB2.out.size; omega) (by
      rintro (h1 | h1)
      · exact hn h1
      · have := HLT.out; omega)).trans (HB2.out.block i hi)⟩)
  clear g0 g1 g2 g3 g4 g5 gl hnp hnq hk
  rcases h with ⟨z, r, rfl, hrd, hR⟩ | ⟨rfl, hR⟩
  · have HRD := Lib.hid hrd
    have HRR := Lib.hid hR
    clear hrd hR
    have p0 := HP3.out.cell 0
    have pf := HP3.out.frozen 0
    have pl := HP3.out.lt
    simp at p0
    cases z
    · go_wp2_with fail
      obtain ⟨w5, hw5⟩ : ∃ X, Hid (X = w3.setCell ⟨p, 0, none⟩ (.bool false)) := ⟨_, rfl⟩
      rw [← hw5.out]
      have HP5 := Lib.hid (show Blk w5 p 4 #[.bool false] by rw [hw5.out]; simpa using HP3.out.set_ 0 (.bool false))
      have HO5 := Lib.hid (show ∀ g, g ≠ p → w5.heap[g]? = w3.heap[g]? by intro g hg; rw [hw5.out]; exact heap_setCell_other _ _ _ _ hg)
      have HZ5 := Lib.hid (show w5.heap.size = w3.heap.size by rw [hw5.out]; simp)
      have HK5 := Lib.hid (show KeptS K w w5 by rw [hw5.out]; exact HK3.out.set (.inr (by have := HLT.out; show w.heap.size ≤ p; omega)) _)
      clear hw5
      show Leaves _ _ _ _ _ _ _
      refine leaves_cons (f := 81) (args := #[.pointer (some ⟨p, 0, none⟩)]) (by simp) (by simp [go_sem]) ?_
      refine (rec81_idle ⟨p, 0, none⟩ w5).mono ?_
      rintro e u' w6 ⟨rfl, rfl, hb6⟩
      have h6 := HP5.out.next hb6
      have c6 := h6.cell 0
      simp at c6
      refine ⟨.bool false, by simp only [results, Tryz.results43]; go_simp, ?_⟩
      refine ⟨some (false, r), w3, HRR.out, by have := hb6.size; have := HZ5.out; omega, fun g h1 h2 => (hb6.block g (by have := HZ5.out; omega)).trans (HO5.out g (by have := HLT.out; omega)), HK5.out.trans (KeptS.of hb6), rfl⟩
    · have g5 := HQ3.out.cell 5
      have gl := HQ3.out.lt
      simp at g5
      go_wp2_with fail
      refine (empty_any r bl bx w3 HRD.out).mono ?_
      rintro e w4 ⟨rfl, rfl⟩
      obtain ⟨v, hv⟩ : ∃ v, Hid (v = r.isEmpty) := ⟨_, rfl⟩
      rw [← hv.out]
      go_wp2_with fail
      obtain ⟨w5, hw5⟩ : ∃ X, Hid (X = w4.setCell ⟨p, 0, none⟩ (.bool v)) := ⟨_, rfl⟩
      rw [← hw5.out]
      have HP5 := Lib.hid (show Blk w5 p 4 #[.bool v] by rw [hw5.out]; simpa using HP3.out.set_ 0 (.bool v))
      have HO5 := Lib.hid (show ∀ g, g ≠ p → w5.heap[g]? = w4.heap[g]? by intro g hg; rw [hw5.out]; exact heap_setCell_other _ _ _ _ hg)
      have HZ5 := Lib.hid (show w5.heap.size = w4.heap.size by rw [hw5.out]; simp)
      have HK5 := Lib.hid (show KeptS K w w5 by rw [hw5.out]; exact HK3.out.set (.inr (by have := HLT.out; show w.heap.size ≤ p; omega)) _)
      clear hw5
      show Leaves _ _ _ _ _ _ _
      refine leaves_cons (f := 81) (args := #[.pointer (some ⟨p, 0, none⟩)]) (by simp) (by simp [go_sem]) ?_
      refine (rec81_idle ⟨p, 0, none⟩ w5).mono ?_
      rintro e u' w6 ⟨rfl, rfl, hb6⟩
      have h6 := HP5.out.next hb6
      have c6 := h6.cell 0
      simp at c6
      refine ⟨.bool v, by simp only [results, Tryz.results43]; go_simp, ?_⟩
      refine ⟨some (true, r), w4, HRR.out, by have := hb6.size; have := HZ5.out; omega, fun g h1 h2 => (hb6.block g (by have := HZ5.out; omega)).trans (HO5.out g (by have := HLT.out; omega)), HK5.out.trans (KeptS.of hb6), by rw [hv.out]; rfl⟩
  · have HRR := Lib.hid hR
    clear hR
    show Leaves _ _ _ _ _ _ _
    refine leaves_cons (f := 81) (args := #[.pointer (some ⟨p, 0, none⟩)]) (by simp) (by simp [go_sem]) ?_
    refine (rec81_rec p false w3 HP3.out).mono ?_
    rintro e u' w6 ⟨rfl, rfl, hw6'⟩
    have hw6 := Lib.hid hw6'
    clear hw6'
    have hpl := HP3.out.lt
    have h6 : Blk w6 p 4 #[.bool false] := by rw [hw6.out]; simpa using (HP3.out.alloc (.cells #[] 119)).set_ 0 (.bool false)
    have c6 := h6.cell 0
    simp at c6
    refine ⟨.bool false, by simp only [results, Tryz.results43]; go_simp, ?_⟩
    refine ⟨none, w3, HRR.out, by rw [hw6.out]; simp, fun g h1 h2 => ?_, ?_, rfl⟩
    · rw [hw6.out, heap_setCell_other _ _ _ _ (show g ≠ p by have := HLT.out; omega)]
      exact Below.heap_alloc _ _ g h1
    · rw [hw6.out]
      exact (HK3.out.trans (KeptS.of (bAlloc _ _))).set (.inr (by have := HLT.out; show w.heap.size ≤ p; omega)) _
set_option maxRecDepth 100000 in
set_option maxHeartbeats 4000000 in
theorem whole47 (L B : Nat) (s : List UInt8) (w : World) (K : Nat → Prop) (R : Option (Bool × List UInt8) → World → Prop) (hE : Env w) (hs : s.length ≤ 1000000) (hS : ∀ g, K g → g < w.heap.size)
    (hc : ∀ (bl bx : Nat) (w1 : World), w.heap.size < bl → w.heap.size < bx → Below w.heap.size w w1 → RdAt w1 bl bx s → Calls Tryz.prog 47 #[rdV bl bx, .pointer (some ⟨L, 0, none⟩), .pointer (some ⟨B, 0, none⟩)] w1 fun e w2 => KeptS (fun g => K g ∨ g = bl) w1 w2 ∧
      ((∃ z r, e = .returned (.bool z) ∧ RdAt w2 bl bx r ∧ R (some (z, r)) w2) ∨ (e = badE ∧ R none w2))) :
    Calls Tryz.prog 43 #[.string (S s), .func (.func 47) #[] #[.pointer (some ⟨L, 0, none⟩), .pointer (some ⟨B, 0, none⟩)]] w fun e w' => ∃ o w2, R o w2 ∧ w2.heap.size ≤ w'.heap.size ∧ (∀ g, g < w2.heap.size → g ≠ w.heap.size → w'.heap[g]? = w2.heap[g]?) ∧ KeptS K w w' ∧
      e = .returned (.bool (match o with | some (z, r) => z && r.isEmpty | none => false)) := by
  have HC := Lib.hid hc
  have HE := Lib.hid hE
  have HSZ := Lib.hid hs
  have HS := Lib.hid hS
  have hmf : ∀ (fn : Fn) (first cap : Array Value) (w : World), (Instr.makeFunc fn first cap).run Tryz.prog w = .ok (.func fn first cap) w := fun _ _ _ _ => rfl
  clear hc hE hs hS
  obtain ⟨p, hp⟩ : ∃ q, Hid (q = w.heap.size) := ⟨_, rfl⟩
  go_enter_defers Tryz.func43, Tryz.ntmps43
  go_wp2_with fail
  obtain ⟨w0, hw0⟩ : ∃ X, Hid (X = w.alloc (.cells #[.bool false] 4)) := ⟨_, rfl⟩
  have HB0 := Lib.hid (show Below w.heap.size w w0 by rw [hw0.out]; exact bAlloc _ _)
  have HP0 := Lib.hid (show Blk w0 p 4 #[.bool false] by rw [hw0.out, hp.out]; exact Blk.new _ _ _)
  rw [← hw0.out, ← hp.out]
  clear hw0
  obtain ⟨bl, hbl⟩ : ∃ q, Hid (q = w0.heap.size) := ⟨_, rfl⟩
  obtain ⟨bx, hbx⟩ : ∃ q, Hid (q = w0.heap.size + 1 + 1) := ⟨_, rfl⟩
  refine (read_any s w0 (HE.out.next HB0.out) HSZ.out bl bx hbl.out hbx.out).mono ?_
  rintro e w1 ⟨rfl, hb1, hr1⟩
  have HR1 := Lib.hid hr1
  have HB1 := Lib.hid (bNext HB0.out hb1)
  have HP1 := Lib.hid (HP0.out.next hb1)
  have HLT := Lib.hid (show (p < bl ∧ p < bx) ∧ w.heap.size = p by
    have h1 := HP0.out.lt
    rw [hbl.out, hbx.out, hp.out] at *
    omega)
  have HPE := Lib.hid hp.out
  clear hb1 hr1 HP0 HB0 hp hbl hbx HE
  go_upto_region 3 with fail
  obtain ⟨q, hq⟩ : ∃ q, Hid (q = w1.heap.size) := ⟨_, rfl⟩
  obtain ⟨w2, hw2⟩ : ∃ X, Hid (X = w1.alloc (.cells (rdCs bl bx) 81)) := ⟨_, rfl⟩
  have HB2 := Lib.hid (show Below w.heap.size w w2 by rw [hw2.out]; exact HB1.out.alloc HB1.out.size _)
  have HQ2 := Lib.hid (show Blk w2 q 81 (rdCs bl bx) by rw [hw2.out, hq.out]; exact Blk.new _ _ _)
  have HP2 := Lib.hid (show Blk w2 p 4 #[.bool false] by rw [hw2.out]; exact HP1.out.alloc _)
  have HR2 := Lib.hid (show RdAt w2 bl bx s by rw [hw2.out]; exact HR1.out.boxed)
  have HLQ := Lib.hid (show bl < q ∧ bx < q by
    have h1 := HR1.out.ln.lt
    have h2 := HR1.out.fs.lt
    rw [hq.out]
    omega)
  rw [← hw2.out, ← hq.out]
  clear hw2 hq HB1 HP1 HR1
  have g0 := HQ2.out.cell 0
  have g1 := HQ2.out.cell 1
  have g2 := HQ2.out.cell 2
  have g3 := HQ2.out.cell 3
  have g4 := HQ2.out.cell 4
  have g5 := HQ2.out.cell 5
  have gl := HQ2.out.lt
  simp at g0 g1 g2 g3 g4 g5
  go_wp2_with fail
  refine (HC.out bl bx w2 (by have := HLT.out; omega) (by have := HLT.out; omega) HB2.out HR2.out).mono ?_
  rintro e w3 ⟨hk, h⟩
  have hnp : ¬ (K p ∨ p = bl) := by
    rintro (h1 | h1)
    · have := HS.out p h1; have := HLT.out; omega
    · have := HLT.out; omega
  have hnq : ¬ (K q ∨ q = bl) := by
    rintro (h1 | h1)
    · have := HS.out q h1; have := HLT.out; have := HLQ.out; omega
    · have := HLQ.out; omega
  have HP3 := Lib.hid (hk.blk HP2.out hnp)
  have HQ3 := Lib.hid (hk.blk HQ2.out hnq)
  have HK3 := Lib.hid (show KeptS K w w3 from ⟨hk.os.trans HB2.out.os, hk.tape.trans HB2.out.tape, hk.output.trans HB2.out.output, Nat.le_trans HB2.out.size hk.size, fun i hi hn =>
    (hk.block i (by have := HB2.out.size; omega) (by
      rintro (h1 | h1)
      · exact hn h1
      · have := HLT.out; omega)).trans (HB2.out.block i hi)⟩)
  clear g0 g1 g2 g3 g4 g5 gl hnp hnq hk
  rcases h with ⟨z, r, rfl, hrd, hR⟩ | ⟨rfl, hR⟩
  · have HRD := Lib.hid hrd
    have HRR := Lib.hid hR
    clear hrd hR
    have p0 := HP3.out.cell 0
    have pf := HP3.out.frozen 0
    have pl := HP3.out.lt
    simp at p0
    cases z
    · go_wp2_with fail
      obtain ⟨w5, hw5⟩ : ∃ X, Hid (X = w3.setCell ⟨p, 0, none⟩ (.bool false)) := ⟨_, rfl⟩
      rw [← hw5.out]
      have HP5 := Lib.hid (show Blk w5 p 4 #[.bool false] by rw [hw5.out]; simpa using HP3.out.set_ 0 (.bool false))
      have HO5 := Lib.hid (show ∀ g, g ≠ p → w5.heap[g]? = w3.heap[g]? by intro g hg; rw [hw5.out]; exact heap_setCell_other _ _ _ _ hg)
      have HZ5 := Lib.hid (show w5.heap.size = w3.heap.size by rw [hw5.out]; simp)
      have HK5 := Lib.hid (show KeptS K w w5 by rw [hw5.out]; exact HK3.out.set (.inr (by have := HLT.out; show w.heap.size ≤ p; omega)) _)
      clear hw5
      show Leaves _ _ _ _ _ _ _
      refine leaves_cons (f := 81) (args := #[.pointer (some ⟨p, 0, none⟩)]) (by simp) (by simp [go_sem]) ?_
      refine (rec81_idle ⟨p, 0, none⟩ w5).mono ?_
      rintro e u' w6 ⟨rfl, rfl, hb6⟩
      have h6 := HP5.out.next hb6
      have c6 := h6.cell 0
      simp at c6
      refine ⟨.bool false, by simp only [results, Tryz.results43]; go_simp, ?_⟩
      refine ⟨some (false, r), w3, HRR.out, by have := hb6.size; have := HZ5.out; omega, fun g h1 h2 => (hb6.block g (by have := HZ5.out; omega)).trans (HO5.out g (by have := HLT.out; omega)), HK5.out.trans (KeptS.of hb6), rfl⟩
    · have g5 := HQ3.out.cell 5
      have gl := HQ3.out.lt
      simp at g5
      go_wp2_with fail
      refine (empty_any r bl bx w3 HRD.out).mono ?_
      rintro e w4 ⟨rfl, rfl⟩
      obtain ⟨v, hv⟩ : ∃ v, Hid (v = r.isEmpty) := ⟨_, rfl⟩
      rw [← hv.out]
      go_wp2_with fail
      obtain ⟨w5, hw5⟩ : ∃ X, Hid (X = w4.setCell ⟨p, 0, none⟩ (.bool v)) := ⟨_, rfl⟩
      rw [← hw5.out]
      have HP5 := Lib.hid (show Blk w5 p 4 #[.bool v] by rw [hw5.out]; simpa using HP3.out.set_ 0 (.bool v))
      have HO5 := Lib.hid (show ∀ g, g ≠ p → w5.heap[g]? = w4.heap[g]? by intro g hg; rw [hw5.out]; exact heap_setCell_other _ _ _ _ hg)
      have HZ5 := Lib.hid (show w5.heap.size = w4.heap.size by rw [hw5.out]; simp)
      have HK5 := Lib.hid (show KeptS K w w5 by rw [hw5.out]; exact HK3.out.set (.inr (by have := HLT.out; show w.heap.size ≤ p; omega)) _)
      clear hw5
      show Leaves _ _ _ _ _ _ _
      refine leaves_cons (f := 81) (args := #[.pointer (some ⟨p, 0, none⟩)]) (by simp) (by simp [go_sem]) ?_
      refine (rec81_idle ⟨p, 0, none⟩ w5).mono ?_
      rintro e u' w6 ⟨rfl, rfl, hb6⟩
      have h6 := HP5.out.next hb6
      have c6 := h6.cell 0
      simp at c6
      refine ⟨.bool v, by simp only [results, Tryz.results43]; go_simp, ?_⟩
      refine ⟨some (true, r), w4, HRR.out, by have := hb6.size; have := HZ5.out; omega, fun g h1 h2 => (hb6.block g (by have := HZ5.out; omega)).trans (HO5.out g (by have := HLT.out; omega)), HK5.out.trans (KeptS.of hb6), by rw [hv.out]; rfl⟩
  · have HRR := Lib.hid hR
    clear hR
    show Leaves _ _ _ _ _ _ _
    refine leaves_cons (f := 81) (args := #[.pointer (some ⟨p, 0, none⟩)]) (by simp) (by simp [go_sem]) ?_
    refine (rec81_rec p false w3 HP3.out).mono ?_
    rintro e u' w6 ⟨rfl, rfl, hw6'⟩
    have hw6 := Lib.hid hw6'
    clear hw6'
    have hpl := HP3.out.lt
    have h6 : Blk w6 p 4 #[.bool false] := by rw [hw6.out]; simpa using (HP3.out.alloc (.cells #[] 119)).set_ 0 (.bool false)
    have c6 := h6.cell 0
    simp at c6
    refine ⟨.bool false, by simp only [results, Tryz.results43]; go_simp, ?_⟩
    refine ⟨none, w3, HRR.out, by rw [hw6.out]; simp, fun g h1 h2 => ?_, ?_, rfl⟩
    · rw [hw6.out, heap_setCell_other _ _ _ _ (show g ≠ p by have := HLT.out; omega)]
      exact Below.heap_alloc _ _ g h1
    · rw [hw6.out]
      exact (HK3.out.trans (KeptS.of (bAlloc _ _))).set (.inr (by have := HLT.out; show w.heap.size ≤ p; omega)) _
end
section
open Go.RowKit

/-- the cells of a block -/
@[reducible] def bkC (b : Bk) (A : Option Addr) (n c : Nat) : Array Value := #[.int .i64 b.id, .string b.pn, .int .i64 b.par, .int .i64 b.paux, .int .i64 b.kk, .int .i64 b.kn, .string b.knm, .int .i64 b.kar, .slice A n c]
@[reducible] def zBk : Bk := ⟨0, ⟨#[]⟩, 0, 0, 0, 0, ⟨#[]⟩, 0, []⟩
def hd6 (id : Int) (q : List UInt8 × Int × Int) (u : List UInt8) : Option Bk := (keyR u).bind fun r =>
  if hdP ⟨id, S q.1, q.2.1, q.2.2, r.1.1, r.1.2.1, S r.1.2.2.1, r.1.2.2.2, []⟩ && r.2.isEmpty then some ⟨id, S q.1, q.2.1, q.2.2, r.1.1, r.1.2.1, S r.1.2.2.1, r.1.2.2.2, []⟩ else none
def hd5 (id : Int) (q : List UInt8 × Int × Int) (u : List UInt8) : Option Bk := (litP [32] u).bind (hd6 id q)
def hd4 (id : Int) (u : List UInt8) : Option Bk := (predP u).bind fun q => hd5 id q.1 q.2
def hd3 (id : Int) (u : List UInt8) : Option Bk := (litP [32] u).bind (hd4 id)
def hd2 (u : List UInt8) : Option Bk := (intP u).bind fun p => hd3 p.1 p.2
theorem headP_hd (s : List UInt8) : headP s = (litP blockW s).bind hd2 := rfl
/-- what the reading of the first line leaves -/
def HdR (B : Nat) (s : List UInt8) (o : Option (Bool × List UInt8)) (w : World) : Prop := match o with
  | some (z, r) => ∃ b : Bk, b.code = [] ∧ headP s = (if z && r.isEmpty then some b else none) ∧ Blk w B 28 (bkC b none 0 0)
  | none => headP s = none ∧ ∃ cs, cs.size = 9 ∧ Blk w B 28 cs
structure Hd (W0 w wr : World) (bl bx q B : Nat) (u : List UInt8) (b : Bk) (A : Option Addr) (n c : Nat) : Prop where
  ev : Env W0 ∧ Below W0.heap.size W0 wr
  rd : RdAt wr bl bx u
  kp : KeptS (fun g => g = B ∨ g = bl) w wr
  bq : Blk wr q 81 (rdCs bl bx)
  bb : Blk wr B 28 (bkC b A n c)
  pl : (bl < q ∧ bx < q) ∧ (B < bl ∧ B < bx) ∧ W0.heap.size ≤ B ∧ w.heap.size ≤ q
section
variable {W0 w wr w2 : World} {bl bx q B : Nat} {u u' : List UInt8} {b b' : Bk} {A : Option Addr} {n c : Nat}
theorem Hd.next (h : Hd W0 w wr bl bx q B u b A n c) (hk : KeptQ bl wr w2) (hr : RdAt w2 bl bx u') : Hd W0 w w2 bl bx q B u' b A n c := by
  have hp := h.pl
  have hz := h.bb.lt
  exact ⟨⟨h.ev.1, h.ev.2.trans (hk.low (by omega) h.ev.2.size)⟩, hr, h.kp.trans (KeptS.ofQ hk (.inr rfl)), hk.blk h.bq (by omega), hk.blk h.bb (by omega), hp⟩
theorem Hd.set (h : Hd W0 w wr bl bx q B u b A n c) {i : Nat} {v : Value} (hb : Blk (wr.setCell ⟨B, i, none⟩ v) B 28 (bkC b' A n c)) : Hd W0 w (wr.setCell ⟨B, i, none⟩ v) bl bx q B u b' A n c := by
  have hp := h.pl
  have he : Below W0.heap.size W0 (wr.setCell ⟨B, i, none⟩ v) := h.ev.2.setCell (by show W0.heap.size ≤ B; omega) _
  refine ⟨⟨h.ev.1, he⟩, ⟨h.rd.ln.far (by show bl ≠ B; omega) _, h.rd.fs.far (by show bx ≠ B; omega) _, h.rd.ne, h.rd.sz, W0, h.ev.1, by omega, he⟩, h.kp.set (.inl (.inl rfl)) _, h.bq.far (by show q ≠ B; omega) _, hb, hp⟩
end
set_option maxRecDepth 100000 in
set_option maxHeartbeats 4000000 in
theorem head44_any (s : List UInt8) (W0 w : World) (bl bx B : Nat) (hE : Env W0) (hW : Below W0.heap.size W0 w) (h : RdAt w bl bx s) (hB : Blk w B 28 (bkC zBk none 0 0)) (hp : (B < bl ∧ B < bx) ∧ W0.heap.size ≤ B) :
    Calls Tryz.prog 44 #[rdV bl bx, .pointer (some ⟨B, 0, none⟩)] w fun e w2 => KeptS (fun g => g = B ∨ g = bl) w w2 ∧
      ((∃ z r, e = .returned (.bool z) ∧ RdAt w2 bl bx r ∧ HdR B s (some (z, r)) w2) ∨ (e = badE ∧ HdR B s none w2)) := by
  obtain ⟨W, HW⟩ : ∃ X, Hid (X = w.alloc (.cells (rdCs bl bx) 81)) := ⟨_, rfl⟩
  obtain ⟨q, hq⟩ : ∃ q, Hid (q = w.heap.size) := ⟨_, rfl⟩
  have H0 := Lib.hid (show Hd W0 w W bl bx q B s zBk none 0 0 by
    have hb := bAlloc w (.cells (rdCs bl bx) 81)
    have h1 := h.ln.lt
    have h2 := h.fs.lt
    rw [HW.out, hq.out]
    exact ⟨⟨hE, hW.trans (hb.mono hW.size)⟩, h.next hb, KeptS.of hb, Blk.new _ _ _, hB.alloc _, by omega⟩)
  have HF0 := Lib.hid (headP_hd s)
  clear hE hW h hB hp
  go_enter Tryz.func44, Tryz.ntmps44
  go_upto_region 1 with fail
  rw [← HW.out, ← hq.out]
  clear HW hq
  have g0 := H0.out.bq.cell 0
  have g1 := H0.out.bq.cell 1
  have g2 := H0.out.bq.cell 2
  have g3 := H0.out.bq.cell 3
  have g4 := H0.out.bq.cell 4
  have g5 := H0.out.bq.cell 5
  have gl := H0.out.bq.lt
  simp at g0 g1 g2 g3 g4 g5
  go_wp2_with fail
  refine (literal_any blockW s bl bx W H0.out.rd).mono ?_
  intro e w1 hr
  rcases hr.cases with ⟨_, u1, ho, rfl, hrd, hkq⟩ | ⟨ho, rfl, hkq⟩
  rotate_left
  · have HNO := Lib.hid (show headP s = none by rw [HF0.out]; first | rw [lit_map ho]; rfl | unfold hd3; rw [lit_map ho]; rfl | unfold hd5; rw [lit_map ho]; rfl)
    exact ⟨rfl, H0.out.kp.trans (KeptS.ofQ hkq (.inr rfl)), .inr ⟨rfl, HNO.out, _, rfl, hkq.blk H0.out.bb (by have := H0.out.pl; omega)⟩⟩
  have HF1 := Lib.hid (show headP s = hd2 u1 by rw [HF0.out]; first | rw [lit_map ho]; rfl | unfold hd3; rw [lit_map ho]; rfl | unfold hd5; rw [lit_map ho]; rfl)
  have H1 := Lib.hid (H0.out.next hkq hrd)
  clear hr ho hrd hkq
  clear g0 g1 g2 g3 g4 g5 gl
  have g0 := H1.out.bq.cell 0
  have g1 := H1.out.bq.cell 1
  have g2 := H1.out.bq.cell 2
  have g3 := H1.out.bq.cell 3
  have g4 := H1.out.bq.cell 4
  have g5 := H1.out.bq.cell 5
  have gl := H1.out.bq.lt
  simp at g0 g1 g2 g3 g4 g5
  go_wp2_with fail
  refine (integer_any u1 bl bx w1 H1.out.rd).mono ?_
  intro e w2 hr
  rcases hr.cases with ⟨id, u2, ho, rfl, hrd, hkq⟩ | ⟨ho, rfl, hkq⟩
  rotate_left
  · have HNO := Lib.hid (show headP s = none by rw [HF1.out]; first | unfold hd2; rw [ho]; rfl | unfold hd4; rw [ho]; rfl | unfold hd6; rw [ho]; rfl)
    exact ⟨rfl, H1.out.kp.trans (KeptS.ofQ hkq (.inr rfl)), .inr ⟨rfl, HNO.out, _, rfl, hkq.blk H1.out.bb (by have := H1.out.pl; omega)⟩⟩
  have HF2 := Lib.hid (show headP s = hd3 id u2 by rw [HF1.out]; first | unfold hd2; rw [ho]; rfl | unfold hd4; rw [ho]; rfl | unfold hd6; rw [ho]; rfl)
  have H2 := Lib.hid (H1.out.next hkq hrd)
  clear hr ho hrd hkq
  clear g0 g1 g2 g3 g4 g5 gl
  have b0 := H2.out.bb.cell 0
  have b1 := H2.out.bb.cell 1
  have b2 := H2.out.bb.cell 2
  have b3 := H2.out.bb.cell 3
  have b4 := H2.out.bb.cell 4
  have b5 := H2.out.bb.cell 5
  have b6 := H2.out.bb.cell 6
  have b7 := H2.out.bb.cell 7
  have b8 := H2.out.bb.cell 8
  have f0 := H2.out.bb.frozen 0
  have f1 := H2.out.bb.frozen 1
  have f2 := H2.out.bb.frozen 2
  have f3 := H2.out.bb.frozen 3
  have f4 := H2.out.bb.frozen 4
  have f5 := H2.out.bb.frozen 5
  have f6 := H2.out.bb.frozen 6
  have f7 := H2.out.bb.frozen 7
  have f8 := H2.out.bb.frozen 8
  have bl8 := H2.out.bb.lt
  simp at b0 b1 b2 b3 b4 b5 b6 b7 b8
  go_upto_region 3 with fail
  obtain ⟨w3, hw3⟩ : ∃ X, Hid (X = w2.setCell ⟨B, 0, none⟩ (.int .i64 id)) := ⟨_, rfl⟩
  have H3 := Lib.hid (show Hd W0 w w3 bl bx q B u2 { zBk with id := id } none 0 0 by rw [hw3.out]; exact H2.out.set (by simpa using H2.out.bb.set_ 0 (.int .i64 id)))
  rw [← hw3.out]
  clear b0 b1 b2 b3 b4 b5 b6 b7 b8 f0 f1 f2 f3 f4 f5 f6 f7 f8 bl8
  clear hw3 H1 H2
  have g0 := H3.out.bq.cell 0
  have g1 := H3.out.bq.cell 1
  have g2 := H3.out.bq.cell 2
  have g3 := H3.out.bq.cell 3
  have g4 := H3.out.bq.cell 4
  have g5 := H3.out.bq.cell 5
  have gl := H3.out.bq.lt
  simp at g0 g1 g2 g3 g4 g5
  go_wp2_with fail
  refine (literal_any [32] u2 bl bx w3 H3.out.rd).mono ?_
  intro e w4 hr
  rcases hr.cases with ⟨_, u4, ho, rfl, hrd, hkq⟩ | ⟨ho, rfl, hkq⟩
  rotate_left
  · have HNO := Lib.hid (show headP s = none by rw [HF2.out]; first | rw [lit_map ho]; rfl | unfold hd3; rw [lit_map ho]; rfl | unfold hd5; rw [lit_map ho]; rfl)
    exact ⟨rfl, H3.out.kp.trans (KeptS.ofQ hkq (.inr rfl)), .inr ⟨rfl, HNO.out, _, rfl, hkq.blk H3.out.bb (by have := H3.out.pl; omega)⟩⟩
  have HF4 := Lib.hid (show headP s = hd4 id u4 by rw [HF2.out]; first | rw [lit_map ho]; rfl | unfold hd3; rw [lit_map ho]; rfl | unfold hd5; rw [lit_map ho]; rfl)
  have H4 := Lib.hid (H3.out.next hkq hrd)
  clear hr ho hrd hkq
  clear g0 g1 g2 g3 g4 g5 gl
  have g0 := H4.out.bq.cell 0
  have g1 := H4.out.bq.cell 1
  have g2 := H4.out.bq.cell 2
  have g3 := H4.out.bq.cell 3
  have g4 := H4.out.bq.cell 4
  have g5 := H4.out.bq.cell 5
  have gl := H4.out.bq.lt
  simp at g0 g1 g2 g3 g4 g5
  go_wp2_with fail
  refine (rdpred_any u4 bl bx w4 H4.out.rd).mono ?_
  intro e w5 hr
  rcases hr.cases with ⟨pd, u5, ho, rfl, hrd, hkq⟩ | ⟨ho, rfl, hkq⟩
  rotate_left
  · have HNO := Lib.hid (show headP s = none by rw [HF4.out]; first | unfold hd2; rw [ho]; rfl | unfold hd4; rw [ho]; rfl | unfold hd6; rw [ho]; rfl)
    exact ⟨rfl, H4.out.kp.trans (KeptS.ofQ hkq (.inr rfl)), .inr ⟨rfl, HNO.out, _, rfl, hkq.blk H4.out.bb (by have := H4.out.pl; omega)⟩⟩
  have HF5 := Lib.hid (show headP s = hd5 id pd u5 by rw [HF4.out]; first | unfold hd2; rw [ho]; rfl | unfold hd4; rw [ho]; rfl | unfold hd6; rw [ho]; rfl)
  have H5 := Lib.hid (H4.out.next hkq hrd)
  clear hr ho hrd hkq
  clear g0 g1 g2 g3 g4 g5 gl
  have b0 := H5.out.bb.cell 0
  have b1 := H5.out.bb.cell 1
  have b2 := H5.out.bb.cell 2
  have b3 := H5.out.bb.cell 3
  have b4 := H5.out.bb.cell 4
  have b5 := H5.out.bb.cell 5
  have b6 := H5.out.bb.cell 6
  have b7 := H5.out.bb.cell 7
  have b8 := H5.out.bb.cell 8
  have f0 := H5.out.bb.frozen 0
  have f1 := H5.out.bb.frozen 1
  have f2 := H5.out.bb.frozen 2
  have f3 := H5.out.bb.frozen 3
  have f4 := H5.out.bb.frozen 4
  have f5 := H5.out.bb.frozen 5
  have f6 := H5.out.bb.frozen 6
  have f7 := H5.out.bb.frozen 7
  have f8 := H5.out.bb.frozen 8
  have bl8 := H5.out.bb.lt
  simp at b0 b1 b2 b3 b4 b5 b6 b7 b8
  go_upto_region 5 with fail
  obtain ⟨w6, hw6⟩ : ∃ X, Hid (X = ((w5.setCell ⟨B, 1, none⟩ (.string (S pd.1))).setCell ⟨B, 2, none⟩ (.int .i64 pd.2.1)).setCell ⟨B, 3, none⟩ (.int .i64 pd.2.2)) := ⟨_, rfl⟩
  have H6 := Lib.hid (show Hd W0 w w6 bl bx q B u5 { zBk with id := id, pn := S pd.1, par := pd.2.1, paux := pd.2.2 } none 0 0 by
    rw [hw6.out]
    have h1 := H5.out.bb.set_ 1 (.string (S pd.1))
    have h2 := h1.set_ 2 (.int .i64 pd.2.1)
    have h3 := h2.set_ 3 (.int .i64 pd.2.2)
    exact ((H5.out.set (b' := { zBk with id := id, pn := S pd.1 }) (by simpa using h1)).set (b' := { zBk with id := id, pn := S pd.1, par := pd.2.1 }) (by simpa using h2)).set (by simpa using h3))
  rw [← hw6.out]
  clear b0 b1 b2 b3 b4 b5 b6 b7 b8 f0 f1 f2 f3 f4 f5 f6 f7 f8 bl8
  clear hw6 H3 H4 H5
  have g0 := H6.out.bq.cell 0
  have g1 := H6.out.bq.cell 1
  have g2 := H6.out.bq.cell 2
  have g3 := H6.out.bq.cell 3
  have g4 := H6.out.bq.cell 4
  have g5 := H6.out.bq.cell 5
  have gl := H6.out.bq.lt
  simp at g0 g1 g2 g3 g4 g5
  go_wp2_with fail
  refine (literal_any [32] u5 bl bx w6 H6.out.rd).mono ?_
  intro e w7 hr
  rcases hr.cases with ⟨_, u7, ho, rfl, hrd, hkq⟩ | ⟨ho, rfl, hkq⟩
  rotate_left
  · have HNO := Lib.hid (show headP s = none by rw [HF5.out]; first | rw [lit_map ho]; rfl | unfold hd3; rw [lit_map ho]; rfl | unfold hd5; rw [lit_map ho]; rfl)
    exact ⟨rfl, H6.out.kp.trans (KeptS.ofQ hkq (.inr rfl)), .inr ⟨rfl, HNO.out, _, rfl, hkq.blk H6.out.bb (by have := H6.out.pl; omega)⟩⟩
  have HF7 := Lib.hid (show headP s = hd6 id pd u7 by rw [HF5.out]; first | rw [lit_map ho]; rfl | unfold hd3; rw [lit_map ho]; rfl | unfold hd5; rw [lit_map ho]; rfl)
  have H7 := Lib.hid (H6.out.next hkq hrd)
  clear hr ho hrd hkq
  clear g0 g1 g2 g3 g4 g5 gl
  have g0 := H7.out.bq.cell 0
  have g1 := H7.out.bq.cell 1
  have g2 := H7.out.bq.cell 2
  have g3 := H7.out.bq.cell 3
  have g4 := H7.out.bq.cell 4
  have g5 := H7.out.bq.cell 5
  have gl := H7.out.bq.lt
  simp at g0 g1 g2 g3 g4 g5
  go_wp2_with fail
  refine (rdkey_any u7 bl bx w7 H7.out.rd).mono ?_
  intro e w8 hr
  rcases hr.cases with ⟨kd, u8, ho, rfl, hrd, hkq⟩ | ⟨ho, rfl, hkq⟩
  rotate_left
  · have HNO := Lib.hid (show headP s = none by rw [HF7.out]; first | unfold hd2; rw [ho]; rfl | unfold hd4; rw [ho]; rfl | unfold hd6; rw [ho]; rfl)
    exact ⟨rfl, H7.out.kp.trans (KeptS.ofQ hkq (.inr rfl)), .inr ⟨rfl, HNO.out, _, rfl, hkq.blk H7.out.bb (by have := H7.out.pl; omega)⟩⟩
  have HF8 := Lib.hid (show headP s = (if hdP ⟨id, S pd.1, pd.2.1, pd.2.2, kd.1, kd.2.1, S kd.2.2.1, kd.2.2.2, []⟩ && u8.isEmpty then some ⟨id, S pd.1, pd.2.1, pd.2.2, kd.1, kd.2.1, S kd.2.2.1, kd.2.2.2, []⟩ else none) by rw [HF7.out]; first | unfold hd2; rw [ho]; rfl | unfold hd4; rw [ho]; rfl | unfold hd6; rw [ho]; rfl)
  have H8 := Lib.hid (H7.out.next hkq hrd)
  clear hr ho hrd hkq
  clear g0 g1 g2 g3 g4 g5 gl
  have b0 := H8.out.bb.cell 0
  have b1 := H8.out.bb.cell 1
  have b2 := H8.out.bb.cell 2
  have b3 := H8.out.bb.cell 3
  have b4 := H8.out.bb.cell 4
  have b5 := H8.out.bb.cell 5
  have b6 := H8.out.bb.cell 6
  have b7 := H8.out.bb.cell 7
  have b8 := H8.out.bb.cell 8
  have f0 := H8.out.bb.frozen 0
  have f1 := H8.out.bb.frozen 1
  have f2 := H8.out.bb.frozen 2
  have f3 := H8.out.bb.frozen 3
  have f4 := H8.out.bb.frozen 4
  have f5 := H8.out.bb.frozen 5
  have f6 := H8.out.bb.frozen 6
  have f7 := H8.out.bb.frozen 7
  have f8 := H8.out.bb.frozen 8
  have bl8 := H8.out.bb.lt
  simp at b0 b1 b2 b3 b4 b5 b6 b7 b8
  go_upto_region 7 with fail
  obtain ⟨w9, hw9⟩ : ∃ X, Hid (X = (((w8.setCell ⟨B, 4, none⟩ (.int .i64 kd.1)).setCell ⟨B, 5, none⟩ (.int .i64 kd.2.1)).setCell ⟨B, 6, none⟩ (.string (S kd.2.2.1))).setCell ⟨B, 7, none⟩ (.int .i64 kd.2.2.2)) := ⟨_, rfl⟩
  obtain ⟨bk, hbk⟩ : ∃ X, Hid (X = (⟨id, S pd.1, pd.2.1, pd.2.2, kd.1, kd.2.1, S kd.2.2.1, kd.2.2.2, []⟩ : Bk)) := ⟨_, rfl⟩
  have H9 := Lib.hid (show Hd W0 w w9 bl bx q B u8 bk none 0 0 by
    rw [hw9.out, hbk.out]
    have h1 := H8.out.bb.set_ 4 (.int .i64 kd.1)
    have h2 := h1.set_ 5 (.int .i64 kd.2.1)
    have h3 := h2.set_ 6 (.string (S kd.2.2.1))
    have h4 := h3.set_ 7 (.int .i64 kd.2.2.2)
    exact (((H8.out.set (b' := { zBk with id := id, pn := S pd.1, par := pd.2.1, paux := pd.2.2, kk := kd.1 }) (by simpa using h1)).set (b' := { zBk with id := id, pn := S pd.1, par := pd.2.1, paux := pd.2.2, kk := kd.1, kn := kd.2.1 }) (by simpa using h2)).set (b' := { zBk with id := id, pn := S pd.1, par := pd.2.1, paux := pd.2.2, kk := kd.1, kn := kd.2.1, knm := S kd.2.2.1 }) (by simpa using h3)).set (by simpa using h4))
  rw [← hw9.out]
  rw [← hbk.out] at HF8
  have HBC := Lib.hid (show bk.code = [] by rw [hbk.out])
  clear b0 b1 b2 b3 b4 b5 b6 b7 b8 f0 f1 f2 f3 f4 f5 f6 f7 f8 bl8
  clear hw9 hbk H6 H7 H8
  have b0 := H9.out.bb.cell 0
  have b1 := H9.out.bb.cell 1
  have b2 := H9.out.bb.cell 2
  have b3 := H9.out.bb.cell 3
  have b4 := H9.out.bb.cell 4
  have b5 := H9.out.bb.cell 5
  have b6 := H9.out.bb.cell 6
  have b7 := H9.out.bb.cell 7
  have b8 := H9.out.bb.cell 8
  have f0 := H9.out.bb.frozen 0
  have f1 := H9.out.bb.frozen 1
  have f2 := H9.out.bb.frozen 2
  have f3 := H9.out.bb.frozen 3
  have f4 := H9.out.bb.frozen 4
  have f5 := H9.out.bb.frozen 5
  have f6 := H9.out.bb.frozen 6
  have f7 := H9.out.bb.frozen 7
  have f8 := H9.out.bb.frozen 8
  have bl8 := H9.out.bb.lt
  simp at b0 b1 b2 b3 b4 b5 b6 b7 b8
  go_wp2_with fail
  have hv := validHead_any bk none 0 w9
  unfold Bk.v at hv
  rw [HBC.out] at hv
  refine hv.mono ?_
  rintro e w10 ⟨rfl, hb⟩
  have hrd := H9.out.rd.next hb
  have HBB := Lib.hid (H9.out.bb.next hb)
  have HKP := Lib.hid (H9.out.kp.trans (KeptS.of hb))
  have HRD := Lib.hid hrd
  clear hb hrd hv
  clear b0 b1 b2 b3 b4 b5 b6 b7 b8 f0 f1 f2 f3 f4 f5 f6 f7 f8 bl8
  go_wp2_with fail
  go_ret
  exact ⟨HKP.out, .inl ⟨hdP bk, u8, rfl, HRD.out, bk, HBC.out, HF8.out, HBB.out⟩⟩
end
end Go.Proofs.YtbipeakinmbdiaaGreatDoor
