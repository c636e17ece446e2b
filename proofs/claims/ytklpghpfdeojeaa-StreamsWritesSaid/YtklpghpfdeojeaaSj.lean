/-
  Walk: a state is copied by the reference.
-/
import Derived.Test.YtklpghpfdeojeaaSi
import Derived.Deep.Cut
namespace Go.Proofs.Ytklpghpfdeojeaa
open Go.RowKit

theorem info35 : (Try.prog.info? 35).map (fun i => (i.zero, i.size, i.bytes)) = some (some (.agg #[.string .empty, .string .empty]), 2, 32) := by kernel_rfl
theorem info52 : (Try.prog.info? 52).map (fun i => (i.zero, i.size, i.bytes)) = some (some (.agg #[.int .i64 0, .string .empty, .int .i64 0, .int .i64 0, .string .empty, .int .i64 0, .bool false]), 7, 72) := by kernel_rfl
@[reducible] def smO (A0 A1 : Option Addr) (c0 c1 : Nat) (s : Sm) : Obj := .cells #[.slice A0 s.files.length c0, .slice A1 s.opn.length c1, .int .i64 s.inp, .int .i64 s.out, .int .i64 s.nxt] 25
@[reducible] def smZ : Obj := .cells #[.slice none 0 0, .slice none 0 0, .int .i64 0, .int .i64 0, .int .i64 0] 25

theorem smBox' {s : Sm} {A0 A1 : Option Addr} {c0 c1 b : Nat} {w1 : World} (h : Blk w1 b 25 #[.slice A0 s.files.length c0, .slice A1 s.opn.length c1, .int .i64 s.inp, .int .i64 s.out, .int .i64 s.nxt]) :
    w1.cell? ⟨b, 0, none⟩ = some (.slice A0 s.files.length c0) ∧ w1.cell? ⟨b, 1, none⟩ = some (.slice A1 s.opn.length c1) ∧ w1.cell? ⟨b, 2, none⟩ = some (.int .i64 s.inp) ∧ w1.cell? ⟨b, 3, none⟩ = some (.int .i64 s.out) ∧ w1.cell? ⟨b, 4, none⟩ = some (.int .i64 s.nxt) := by
  have h0 := h.cell 0
  have h1 := h.cell 1
  have h2 := h.cell 2
  have h3 := h.cell 3
  have h4 := h.cell 4
  simp at h0 h1 h2 h3 h4
  exact ⟨h0, h1, h2, h3, h4⟩
section
variable {w w' : World} {g : Nat} {t : TypeId} {cs : Array Value}
theorem Blk.grown {row : Option Nat} (h : Blk w g t cs) (hb : w.grownBy w' row) (hg : row ≠ some g) : Blk w' g t cs := (hb.block g h.lt (fun e => hg e.symm)).trans h
theorem Blk.set_ (h : Blk w g t cs) (i : Nat) (u : Value) : Blk (w.setCell ⟨g, i, none⟩ u) g t (cs.setIfInBounds i u) := heap_setCell_same w g i cs t u h
theorem Blk.far (h : Blk w g t cs) {p : Addr} (hp : g ≠ p.block) (u : Value) : Blk (w.setCell p u) g t cs := (heap_setCell_other w p g u hp).trans h
end

theorem own_base {w : World} {base base' size n : Nat} {e : TypeId} {v : Value} {xs : List Value} (h : w.ownsRow base e size v n xs) (hb : base' ≤ base) : w.ownsRow base' e size v n xs :=
  ⟨h.1, h.2.elim Or.inl fun ⟨g, cap, cur, hv, hg, r⟩ => Or.inr ⟨g, cap, cur, hv, Nat.le_trans hb hg, r⟩⟩
set_option maxHeartbeats 1000000 in
theorem clone_own (v : Value) (s : Sm) (w : World) (hs : SmAt w w.heap.size v s) :
    Calls Try.prog 25 #[v] w fun e w' => (∃ v0 v1, e = .returned (.agg #[v0, v1, .int .i64 s.inp, .int .i64 s.out, .int .i64 s.nxt]) ∧ w'.ownsRow w.heap.size 35 2 v0 s.files.length (fCs s.files) ∧ w'.ownsRow w.heap.size 52 7 v1 s.opn.length (gCs s.opn)) ∧ Below w.heap.size w w' := by
  obtain ⟨i0, hi0, hz0, hy0, hb0⟩ := info_parts info35
  obtain ⟨i1, hi1, hz1, hy1, hb1⟩ := info_parts info52
  obtain ⟨A0, c0, A1, c1, rfl, ⟨hc0, hc1⟩, h0, h1⟩ := hs
  have hfl := h0.1.2
  have hol := h1.1.2
  have HA := Lib.hid h0
  have HO := Lib.hid h1
  have HC0 := Lib.hid hc0
  have HC1 := Lib.hid hc1
  clear h0 h1 hc0 hc1
  obtain ⟨W, HWd⟩ : ∃ W, Hid (W = ((w.alloc (smO A0 A1 c0 c1 s)).alloc smZ).alloc (smO A0 A1 c0 c1 s)) := ⟨_, rfl⟩
  have hbW : Below w.heap.size w W := by rw [HWd.out]; exact ((bAlloc _ _).alloc (by simp) _).alloc (by simp; omega) _
  have hzW : W.heap.size = w.heap.size + 3 := by rw [HWd.out]; simp
  have k0 : Blk W w.heap.size 25 #[.slice A0 s.files.length c0, .slice A1 s.opn.length c1, .int .i64 s.inp, .int .i64 s.out, .int .i64 s.nxt] := by
    rw [HWd.out]; exact ((Blk.new _ _ _).alloc _).alloc _
  have k1 : Blk W (w.heap.size + 1) 25 #[.slice none 0 0, .slice none 0 0, .int .i64 0, .int .i64 0, .int .i64 0] := by
    have h := (Blk.new (w.alloc (smO A0 A1 c0 c1 s)) 25 #[.slice none 0 0, .slice none 0 0, .int .i64 0, .int .i64 0, .int .i64 0]).alloc (smO A0 A1 c0 c1 s)
    rw [World.size_alloc] at h
    rw [HWd.out]; exact h
  have k2 : Blk W (w.heap.size + 1 + 1) 25 #[.slice A0 s.files.length c0, .slice A1 s.opn.length c1, .int .i64 s.inp, .int .i64 s.out, .int .i64 s.nxt] := by
    have h := Blk.new ((w.alloc (smO A0 A1 c0 c1 s)).alloc smZ) 25 #[.slice A0 s.files.length c0, .slice A1 s.opn.length c1, .int .i64 s.inp, .int .i64 s.out, .int .i64 s.nxt]
    rw [World.size_alloc, World.size_alloc] at h
    rw [HWd.out]; exact h
  go_enter Try.func25, Try.ntmps25
  have hmade : (W.alloc (.cells #[] 35)).ownsRow (w.heap.size + 3) 35 2 (.slice (some ⟨w.heap.size + 1 + 1 + 1, 0, none⟩) 0 0) 0 [] := by
    have h := World.ownsRow_made (e := 35) (size := 2) W #[] 0 (Nat.le_refl W.heap.size) (by decide) rfl
    rw [hzW] at h; exact h
  have HM := Lib.hid hmade
  clear hmade
  go_wp2_with (at_builtin; refine wpList_append_src rfl (.tmp 5) (.tmp 7) 22 rfl (w.heap.size + 3) 35 i0 _ 2 32 Try.underlying22 hi0 hz0 hy0 hb0 rfl (by decide) _ 0 [] rfl (by rw [← HWd.out]; exact HM.out) A0 s.files.length c0 (fCs s.files) rfl HC0.out ?c1 ?c2 ?c3 ?c4 ?c5 ?c6 ?_)
  case c1 => rw [fCs_len]
  case c2 => rw [← HWd.out]; exact files_cells (HA.out.below (hbW.alloc (by omega) _))
  case c3 => exact f_one _
  case c4 => unfold maxLen; omega
  case c5 => omega
  case c6 => simp
  rw [← HWd.out]
  intro v1 w1 ho1 hg1 hat1
  obtain ⟨D0, e0, rfl, hcap0, hl0, hf0⟩ := own_files ho1 (by omega)
  simp only [] at ho1 hcap0 hf0 hl0
  have hz1' := hg1.size
  simp [hzW] at hz1'
  have nW : ∀ b, b < w.heap.size + 3 → (Value.slice (some ⟨w.heap.size + 1 + 1 + 1, 0, none⟩) 0 0).ownBlock ≠ some b := fun b hb e => by simp [Value.ownBlock] at e; omega
  have q0 := (k0.alloc (.cells #[] 35)).grown hg1 (nW _ (by omega))
  have q1 := (k1.alloc (.cells #[] 35)).grown hg1 (nW _ (by omega))
  have q2 := (k2.alloc (.cells #[] 35)).grown hg1 (nW _ (by omega))
  have hbw1 : Below w.heap.size w w1 := (hbW.alloc (by omega) _).grown hg1 (by simp; omega) (fun k hk => by simp [Value.ownBlock] at hk; omega)
  obtain ⟨w2, HW2⟩ : ∃ w2, Hid (w2 = w1.setCell ⟨w.heap.size + 1 + 1, 0, none⟩ (.slice D0 s.files.length e0)) := ⟨_, rfl⟩
  have hz2 : w1.heap.size = w2.heap.size := by rw [HW2.out]; simp
  have hbw2 : Below w.heap.size w w2 := by rw [HW2.out]; exact hbw1.setCell (by simp; omega) _
  have ho2 : w2.ownsRow (w.heap.size + 3) 35 2 (.slice D0 s.files.length e0) s.files.length (fCs s.files) := by
    rw [HW2.out]
    exact own_stay ho1 fun g hg => heap_setCell_other _ _ _ _ (by have := (ho1.lt g hg).1; simp; omega)
  have r0 : Blk w2 w.heap.size 25 #[.slice A0 s.files.length c0, .slice A1 s.opn.length c1, .int .i64 s.inp, .int .i64 s.out, .int .i64 s.nxt] := by rw [HW2.out]; exact q0.far (by simp; omega) _
  have r1 : Blk w2 (w.heap.size + 1) 25 #[.slice none 0 0, .slice none 0 0, .int .i64 0, .int .i64 0, .int .i64 0] := by rw [HW2.out]; exact q1.far (by simp) _
  have r2 : Blk w2 (w.heap.size + 1 + 1) 25 #[.slice D0 s.files.length e0, .slice A1 s.opn.length c1, .int .i64 s.inp, .int .i64 s.out, .int .i64 s.nxt] := by
    rw [HW2.out]
    have h := q2.set_ 0 (.slice D0 s.files.length e0)
    simpa using h
  have s0 := q2.cell 0
  have s1 := q2.frozen 0
  have s2 := q2.lt
  simp at s0
  obtain ⟨p0, p1, p2, p3, p4⟩ := smBox' r0
  have HCP0 := Lib.hid hcap0
  have HO2 := Lib.hid ho2
  have HB2 := Lib.hid hbw2
  have R0 := Lib.hid r0
  have R1 := Lib.hid r1
  have R2 := Lib.hid r2
  have t0 := r2.cell 1
  have t1 := r2.frozen 1
  have t2 := r2.lt
  simp at t0
  have hmade2 : (w2.alloc (.cells #[] 52)).ownsRow (w.heap.size + 3) 52 7 (.slice (some ⟨w2.heap.size, 0, none⟩) 0 0) 0 [] :=
    World.ownsRow_made (e := 52) (size := 7) w2 #[] 0 (by omega) (by decide) rfl
  have HM2 := Lib.hid hmade2
  clear hmade2 ho1 ho2 hg1 hat1 hcap0 hf0 hl0 q0 q1 q2 r0 r1 r2 nW k0 k1 k2 hbW hbw1 hbw2
  go_upto_region 3 with fail
  rw [← HW2.out]
  have hw0 : w.heap.size < w2.heap.size := by omega
  go_wp2_with (at_builtin; refine wpList_append_src rfl (.tmp 10) (.tmp 12) 23 rfl (w.heap.size + 3) 52 i1 _ 7 72 Try.underlying23 hi1 hz1 hy1 hb1 rfl (by decide) _ 0 [] rfl HM2.out A1 s.opn.length c1 (gCs s.opn) rfl HC1.out ?c1 ?c2 ?c3 ?c4 ?c5 ?c6 ?_)
  case c1 => rw [gCs_len]
  case c2 => exact opens_cells (HO.out.below (HB2.out.alloc (by omega) _))
  case c3 => exact g_one _
  case c4 => unfold maxLen; omega
  case c5 => omega
  case c6 => simp; omega
  intro v3 w3 ho3 hg3 hat3
  obtain ⟨D1, e1, rfl, hcap1, hl1, hf1⟩ := own_opens ho3 (by omega)
  simp only [] at ho3 hcap1 hf1 hl1
  have hz3 := hg3.size
  simp at hz3
  have nW : ∀ b, b < w2.heap.size → (Value.slice (some ⟨w2.heap.size, 0, none⟩) 0 0).ownBlock ≠ some b := fun b hb e => by simp [Value.ownBlock] at e; omega
  have q0 := (R0.out.alloc (.cells #[] 52)).grown hg3 (nW _ (by omega))
  have q1 := (R1.out.alloc (.cells #[] 52)).grown hg3 (nW _ (by omega))
  have q2 := (R2.out.alloc (.cells #[] 52)).grown hg3 (nW _ (by omega))
  have hbw3 : Below w.heap.size w w3 := (HB2.out.alloc (by omega) _).grown hg3 (by simp; omega) (fun k hk => by simp [Value.ownBlock] at hk; omega)
  have ho0 : w3.ownsRow (w.heap.size + 3) 35 2 (.slice D0 s.files.length e0) s.files.length (fCs s.files) :=
    own_stay (HO2.out.alloc _) fun g hg => hg3.block g ((HO2.out.alloc (.cells #[] 52)).lt g hg).2 (fun e => by have := (HO2.out.lt g hg).2; simp [Value.ownBlock] at e; omega)
  have s4 := q2.cell 1
  have s5 := q2.frozen 1
  have s6 := q2.lt
  simp at s4
  obtain ⟨w4, HW4⟩ : ∃ w4, Hid (w4 = w3.setCell ⟨w.heap.size + 1 + 1, 1, none⟩ (.slice D1 s.opn.length e1)) := ⟨_, rfl⟩
  have hz4 : w3.heap.size = w4.heap.size := by rw [HW4.out]; simp
  have hbw4 : Below w.heap.size w w4 := by rw [HW4.out]; exact hbw3.setCell (by simp; omega) _
  have hk4 : ∀ b, b ≠ w.heap.size + 1 + 1 → w4.heap[b]? = w3.heap[b]? := fun b hb => by rw [HW4.out]; exact heap_setCell_other _ _ _ _ (by simpa using hb)
  have o0 : w4.ownsRow (w.heap.size + 3) 35 2 (.slice D0 s.files.length e0) s.files.length (fCs s.files) := own_stay ho0 fun g hg => hk4 g (by have := (ho0.lt g hg).1; omega)
  have o1 : w4.ownsRow (w.heap.size + 3) 52 7 (.slice D1 s.opn.length e1) s.opn.length (gCs s.opn) := own_stay ho3 fun g hg => hk4 g (by have := (ho3.lt g hg).1; omega)
  have u1 : Blk w4 (w.heap.size + 1) 25 #[.slice none 0 0, .slice none 0 0, .int .i64 0, .int .i64 0, .int .i64 0] := (hk4 _ (by omega)).trans q1
  have u2 : Blk w4 (w.heap.size + 1 + 1) 25 #[.slice D0 s.files.length e0, .slice D1 s.opn.length e1, .int .i64 s.inp, .int .i64 s.out, .int .i64 s.nxt] := by
    rw [HW4.out]
    have h := q2.set_ 1 (.slice D1 s.opn.length e1)
    simpa using h
  have O0 := Lib.hid o0
  have O1 := Lib.hid o1
  have HB4 := Lib.hid hbw4
  have HCP1 := Lib.hid hcap1
  have HFin : Hid (∀ W' : World, (∀ b, w.heap.size + 3 ≤ b → W'.heap[b]? = w4.heap[b]?) → W'.ownsRow w.heap.size 35 2 (.slice D0 s.files.length e0) s.files.length (fCs s.files)) ∧ Hid (∀ W' : World, (∀ b, w.heap.size + 3 ≤ b → W'.heap[b]? = w4.heap[b]?) → W'.ownsRow w.heap.size 52 7 (.slice D1 s.opn.length e1) s.opn.length (gCs s.opn)) :=
    ⟨Lib.hid fun W' hk => by have h := own_stay (w' := W') o0 fun g hg => hk g (o0.lt g hg).1; exact own_base h (by omega), Lib.hid fun W' hk => by have h := own_stay (w' := W') o1 fun g hg => hk g (o1.lt g hg).1; exact own_base h (by omega)⟩
  obtain ⟨y0, y1, y2, y3, y4⟩ := smBox' u2
  have z0 := u1.cell 0
  have z1 := u1.cell 1
  have z2 := u1.cell 2
  have z3 := u1.cell 3
  have z4 := u1.cell 4
  have f0 := u1.frozen 0
  have f1 := u1.frozen 1
  have f2 := u1.frozen 2
  have f3 := u1.frozen 3
  have f4 := u1.frozen 4
  have zz := u1.lt
  simp at z0 z1 z2 z3 z4
  clear ho0 ho3 hg3 hat3 hcap1 hf1 hl1 q0 q1 q2 o0 o1 u1 u2 nW hbw3 hbw4 hk4
  go_upto_region 4 with fail
  rw [← HW4.out]
  go_wp2
  refine bodyPost_ret (v := smV D0 D1 e0 e1 s) (by simp [results, Try.results25, go_sem, z0, z1, z2, z3, z4]) rfl ⟨⟨_, _, rfl, ?_, ?_⟩, ?_⟩
  · refine HFin.1.out _ fun b hb => ?_
    repeat rw [heap_setCell_other _ _ _ _ (by simp; omega)]
  · refine HFin.2.out _ fun b hb => ?_
    repeat rw [heap_setCell_other _ _ _ _ (by simp; omega)]
  · repeat refine Below.setCell ?_ (by simp) _
    exact HB4.out
theorem clone_any (v : Value) (s : Sm) (w : World) (hs : SmAt w w.heap.size v s) :
    Calls Try.prog 25 #[v] w fun e w' => (∃ v', e = .returned v' ∧ SmAt w' w'.heap.size v' s) ∧ Below w.heap.size w w' := by
  obtain ⟨A0, c0, A1, c1, -, -, h0, h1⟩ := id hs
  have hfl := h0.1.2
  have hol := h1.1.2
  refine (clone_own v s w hs).mono ?_
  rintro e w' ⟨⟨v0, v1, rfl, o0, o1⟩, hb⟩
  obtain ⟨D0, e0, rfl, hc0, -, hf⟩ := own_files o0 hfl
  obtain ⟨D1, e1, rfl, hc1, -, ho⟩ := own_opens o1 hol
  exact ⟨⟨_, rfl, D0, e0, D1, e1, rfl, ⟨hc0, hc1⟩, hf, ho⟩, hb⟩
end Go.Proofs.Ytklpghpfdeojeaa
