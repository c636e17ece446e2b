/-
  The law's same, at equal outcomes. Memory for the law's spoil: rows that stay owned when a cell of any block is written. The law's spoil, on two choice points. Memory for the law FramesPlays: two stacks behind two pointers that share no block, and rows that are apart from both.
-/
import Derived.Test.YtpkpffnabcgcbaaPm
import Derived.Test.YtpkpffnabcgcbaaVe
namespace Go.Proofs.Ytpkpffnabcgcbaa
section
open Go.RowKit

set_option maxHeartbeats 4000000 in
theorem outSame_any {A0 A1 B0 B1 : Option Addr} {c0 c1 d0 d1 : Nat} (o : Ov) (w : World) (ha0 : CellsAt w A0 o.ch.args) (ha1 : CellsAt w A1 o.ch.args) (hb0 : IntsAt w B0 o.ch.alts) (hb1 : IntsAt w B1 o.ch.alts) (hna : o.ch.args.length ≤ 8796093022208) (hnb : o.ch.alts.length ≤ 17592186044416) :
    Calls Try.prog 23 #[Ov.v o (.slice A0 o.ch.args.length c0, .slice B0 o.ch.alts.length d0), Ov.v o (.slice A1 o.ch.args.length c1, .slice B1 o.ch.alts.length d1)] w fun e w' => e = .returned (.bool true) ∧ Below w.heap.size w w' := by
  obtain ⟨W, HW⟩ : ∃ W, Hid (W = (w.alloc (.cells #[.int .i64 o.id, .int .i64 o.pc, .int .i64 o.c.tag, .int .i64 o.c.n, .int .i64 o.ch.kind, .slice A0 o.ch.args.length c0, .int .i64 o.ch.env, .int .i64 o.ch.id, .int .i64 o.ch.pc, .int .i64 o.ch.cut, .int .i64 o.ch.mark, .int .i64 o.ch.top, .int .i64 o.ch.envs, .slice B0 o.ch.alts.length d0, .int .i64 o.ch.data, .int .i64 o.e] 42)).alloc (.cells #[.int .i64 o.id, .int .i64 o.pc, .int .i64 o.c.tag, .int .i64 o.c.n, .int .i64 o.ch.kind, .slice A1 o.ch.args.length c1, .int .i64 o.ch.env, .int .i64 o.ch.id, .int .i64 o.ch.pc, .int .i64 o.ch.cut, .int .i64 o.ch.mark, .int .i64 o.ch.top, .int .i64 o.ch.envs, .slice B1 o.ch.alts.length d1, .int .i64 o.ch.data, .int .i64 o.e] 42)) := ⟨_, rfl⟩
  have hbW : Below w.heap.size w W := by rw [HW.out]; exact (bAlloc w _).alloc (by simp) _
  obtain ⟨q2, hq2⟩ : ∃ q, Hid (q = w.heap.size) := ⟨_, rfl⟩
  obtain ⟨q3, hq3⟩ : ∃ q, Hid (q = w.heap.size + 1) := ⟨_, rfl⟩
  have k2 : Blk W q2 42 #[.int .i64 o.id, .int .i64 o.pc, .int .i64 o.c.tag, .int .i64 o.c.n, .int .i64 o.ch.kind, .slice A0 o.ch.args.length c0, .int .i64 o.ch.env, .int .i64 o.ch.id, .int .i64 o.ch.pc, .int .i64 o.ch.cut, .int .i64 o.ch.mark, .int .i64 o.ch.top, .int .i64 o.ch.envs, .slice B0 o.ch.alts.length d0, .int .i64 o.ch.data, .int .i64 o.e] := by rw [HW.out, hq2.out]; exact (Blk.new w 42 _).alloc _
  have k3 : Blk W q3 42 #[.int .i64 o.id, .int .i64 o.pc, .int .i64 o.c.tag, .int .i64 o.c.n, .int .i64 o.ch.kind, .slice A1 o.ch.args.length c1, .int .i64 o.ch.env, .int .i64 o.ch.id, .int .i64 o.ch.pc, .int .i64 o.ch.cut, .int .i64 o.ch.mark, .int .i64 o.ch.top, .int .i64 o.ch.envs, .slice B1 o.ch.alts.length d1, .int .i64 o.ch.data, .int .i64 o.e] := by
    rw [HW.out, hq3.out]
    have h1 := Blk.new (w.alloc (.cells #[.int .i64 o.id, .int .i64 o.pc, .int .i64 o.c.tag, .int .i64 o.c.n, .int .i64 o.ch.kind, .slice A0 o.ch.args.length c0, .int .i64 o.ch.env, .int .i64 o.ch.id, .int .i64 o.ch.pc, .int .i64 o.ch.cut, .int .i64 o.ch.mark, .int .i64 o.ch.top, .int .i64 o.ch.envs, .slice B0 o.ch.alts.length d0, .int .i64 o.ch.data, .int .i64 o.e] 42)) 42 #[.int .i64 o.id, .int .i64 o.pc, .int .i64 o.c.tag, .int .i64 o.c.n, .int .i64 o.ch.kind, .slice A1 o.ch.args.length c1, .int .i64 o.ch.env, .int .i64 o.ch.id, .int .i64 o.ch.pc, .int .i64 o.ch.cut, .int .i64 o.ch.mark, .int .i64 o.ch.top, .int .i64 o.ch.envs, .slice B1 o.ch.alts.length d1, .int .i64 o.ch.data, .int .i64 o.e]
    rw [World.size_alloc] at h1
    exact h1
  have HSC := Lib.hid (sameChoice_any (c0 := c0) (c1 := c1) (d0 := d0) (d1 := d1) o.ch W (ha0.next hbW) (ha1.next hbW) (hb0.next hbW) (hb1.next hbW) hna hnb)
  have HB := Lib.hid hbW
  have l2 := k2.lt
  have l3 := k3.lt
  have a0 := k2.cell 0
  have b0 := k3.cell 0
  have a1 := k2.cell 1
  have b1 := k3.cell 1
  have a2 := k2.cell 2
  have b2 := k3.cell 2
  have a3 := k2.cell 3
  have b3 := k3.cell 3
  have a4 := k2.cell 4
  have b4 := k3.cell 4
  have a5 := k2.cell 5
  have b5 := k3.cell 5
  have a6 := k2.cell 6
  have b6 := k3.cell 6
  have a7 := k2.cell 7
  have b7 := k3.cell 7
  have a8 := k2.cell 8
  have b8 := k3.cell 8
  have a9 := k2.cell 9
  have b9 := k3.cell 9
  have a10 := k2.cell 10
  have b10 := k3.cell 10
  have a11 := k2.cell 11
  have b11 := k3.cell 11
  have a12 := k2.cell 12
  have b12 := k3.cell 12
  have a13 := k2.cell 13
  have b13 := k3.cell 13
  have a14 := k2.cell 14
  have b14 := k3.cell 14
  have a15 := k2.cell 15
  have b15 := k3.cell 15
  simp at a0 b0 a1 b1 a2 b2 a3 b3 a4 b4 a5 b5 a6 b6 a7 b7 a8 b8 a9 b9 a10 b10 a11 b11 a12 b12 a13 b13 a14 b14 a15 b15
  clear k2 k3 hbW ha0 ha1 hb0 hb1
  go_enter Try.func23, Try.ntmps23
  go_upto_region 1 with fail
  rw [← HW.out]
  try rw [← hq3.out]
  try rw [← hq2.out]
  clear HW
  go_wp2_with fail
  refine HSC.out.mono ?_
  rintro e w1 ⟨rfl, hb1⟩
  have HB1 := Lib.hid (bNext HB.out hb1)
  clear hb1
  go_wp2_with fail
  go_ret
  exact ⟨rfl, HB1.out⟩
end
section
open Go.RowKit

/-- a row stays owned when a cell of some block is written -/
theorem own_set {w : World} {base e size n : Nat} {v : Value} {xs : List Value} (h : w.ownsRow base e size v n xs) (g o : Nat) (u : Value) : ∃ xs', (w.setCell ⟨g, o, none⟩ u).ownsRow base e size v n xs' := by
  rcases h.2 with ⟨hv, h0⟩ | ⟨g', cap, cur, hv, hg, hh, hc, hcm, hcs, ht⟩
  · exact ⟨xs, h.1, .inl ⟨hv, h0⟩⟩
  · by_cases hgg : g' = g
    · subst hgg
      refine ⟨((cur.setIfInBounds o u).toList.take (n * size)), ?_, .inr ⟨g', cap, cur.setIfInBounds o u, hv, hg, heap_setCell_same w g' o cur e u hh, hc, hcm, by simpa using hcs, rfl⟩⟩
      have h1 := h.1
      rw [← ht] at h1
      simpa using h1
    · exact ⟨xs, own_stay h fun k hk => heap_setCell_other _ _ _ _ (fun e => hgg (by rw [hv] at hk; injection hk with hk; exact Eq.trans hk e))⟩
/-- the choice points of a spoiled row that are not yet reached -/
def SpM (w : World) (gc i : Nat) (v : Nat → Value × Value) (na nb : Nat → Nat) : Prop :=
  (∃ cs, Blk w gc 29 cs ∧ cs.size = 22 ∧ ∀ j, i ≤ j → j < 2 → cs[j * 11 + 1]? = some (v j).1 ∧ cs[j * 11 + 9]? = some (v j).2) ∧
    ∀ j, j < 2 → (∃ xs, w.ownsRow 0 38 2 (v j).1 (na j) xs) ∧ ∃ xs, w.ownsRow 0 2 1 (v j).2 (nb j) xs
end
section
open Go.RowKit

theorem SpM.below {w w' : World} {gc i : Nat} {v : Nat → Value × Value} {na nb : Nat → Nat} (h : SpM w gc i v na nb) (hb : Below w.heap.size w w') : SpM w' gc i v na nb := by
  obtain ⟨⟨cs, h1, h2, h3⟩, h4⟩ := h
  exact ⟨⟨cs, h1.next hb, h2, h3⟩, fun j hj => by
    obtain ⟨⟨xs, r1⟩, zs, r2⟩ := h4 j hj
    exact ⟨⟨xs, own_stay r1 fun g hg => hb.block g (r1.lt g hg).2⟩, zs, own_stay r2 fun g hg => hb.block g (r2.lt g hg).2⟩⟩
/-- a cell of one of the rows is written -/
theorem SpM.set {w : World} {gc i : Nat} {v : Nat → Value × Value} {na nb : Nat → Nat} (h : SpM w gc i v na nb) {g : Nat} (hg : g ≠ gc) (o : Nat) (u : Value) : SpM (w.setCell ⟨g, o, none⟩ u) gc i v na nb := by
  obtain ⟨⟨cs, h1, h2, h3⟩, h4⟩ := h
  refine ⟨⟨cs, h1.far (by simpa using fun e => hg e.symm) u, h2, h3⟩, fun j hj => ?_⟩
  obtain ⟨⟨xs, r1⟩, zs, r2⟩ := h4 j hj
  exact ⟨own_set r1 g o u, own_set r2 g o u⟩
theorem SpM.ne {w : World} {gc i : Nat} {v : Nat → Value × Value} {na nb : Nat → Nat} (h : SpM w gc i v na nb) {t size n g : Nat} {u : Value} {xs : List Value} (ho : w.ownsRow 0 t size u n xs) (ht : t ≠ 29) (hg : u.ownBlock = some g) : g ≠ gc := by
  rintro rfl
  obtain ⟨⟨cs, h1, -, -⟩, -⟩ := h
  obtain ⟨cz, hz⟩ := own_ty ho hg
  unfold Blk at h1
  rw [hz] at h1
  injection h1 with h1
  injection h1 with _ h1 _
  exact ht h1
/-- a cell of a choice point that was reached is written -/
theorem SpM.setC {w : World} {gc i i' o : Nat} {v : Nat → Value × Value} {na nb : Nat → Nat} (h : SpM w gc i v na nb) (hi : i ≤ i') (ho : o < i' * 11) (u : Value) : SpM (w.setCell ⟨gc, o, none⟩ u) gc i' v na nb := by
  obtain ⟨⟨cs, h1, h2, h3⟩, h4⟩ := h
  refine ⟨⟨cs.setIfInBounds o u, h1.set_ o u, by simpa using h2, fun j hj hj2 => ?_⟩, fun j hj => ?_⟩
  · rw [Array.getElem?_setIfInBounds_ne (by omega), Array.getElem?_setIfInBounds_ne (by omega)]
    exact h3 j (by omega) hj2
  · obtain ⟨⟨xs, r1⟩, zs, r2⟩ := h4 j hj
    exact ⟨own_set r1 gc o u, own_set r2 gc o u⟩
set_option maxHeartbeats 8000000 in
theorem spoil_any {gc : Nat} {v : Nat → Value × Value} {na nb : Nat → Nat} (w : World) (h : SpM w gc 0 v na nb) (hna : ∀ j, na j ≤ 17592186044416) (hnb : ∀ j, nb j ≤ 17592186044416) :
    Calls Try.prog 26 #[.agg #[.slice none 0 0, .int .i64 0, .slice (some ⟨gc, 0, none⟩) 2 2]] w fun e w' => e = .returned (.tuple #[]) ∧ Kept (gc :: blks [(v 0).1, (v 0).2, (v 1).1, (v 1).2]) w w' := by
  obtain ⟨W, HW⟩ : ∃ W, Hid (W = w.alloc (.cells #[.slice none 0 0, .int .i64 0, .slice (some ⟨gc, 0, none⟩) 2 2] 25)) := ⟨_, rfl⟩
  have hbW : Below w.heap.size w W := by rw [HW.out]; exact bAlloc _ _
  obtain ⟨q, hq⟩ : ∃ q, Hid (q = w.heap.size) := ⟨_, rfl⟩
  have kq : Blk W q 25 #[.slice none 0 0, .int .i64 0, .slice (some ⟨gc, 0, none⟩) 2 2] := by rw [HW.out, hq.out]; exact Blk.new _ _ _
  have hqw : w.heap.size ≤ q := by rw [hq.out]; exact Nat.le_refl _
  have HM := Lib.hid (h.below hbW)
  have HKP := Lib.hid (Kept.below (F := (gc :: blks [(v 0).1, (v 0).2, (v 1).1, (v 1).2])) hbW)
  have HQ := Lib.hid kq
  have z0 := kq.cell 0
  have z2 := kq.cell 2
  have lq := kq.lt
  simp at z0 z2
  clear h hbW kq
  go_enter Try.func26, Try.ntmps26
  go_upto_region 1 with fail
  rw [← HW.out]
  try rw [← hq.out]
  clear HW
  go_wp2_with fail
  go_loopw [10] (fun i wr => i = .int .i64 0 ∧ wr = W) (fun _ _ => 0)
  case atStart => exact ⟨rfl, rfl⟩
  case round =>
    obtain ⟨rfl, rfl⟩ := hrel
    go_wp2_with fail
    go_loopw [42] (fun i wr => ∃ k : Nat, k ≤ 2 ∧ i = .int .i64 (k : Int) ∧ Hid (Kept (gc :: blks [(v 0).1, (v 0).2, (v 1).1, (v 1).2]) w wr) ∧ Hid (Blk wr q 25 #[.slice none 0 0, .int .i64 0, .slice (some ⟨gc, 0, none⟩) 2 2]) ∧ Hid (SpM wr gc k v na nb)) (fun i _ => 2 - (intOf i).toNat)
    case atStart => exact ⟨0, by omega, rfl, HKP, HQ, HM⟩
    case round =>
      clear HKP HQ HM z0 z2 lq
      obtain ⟨k, hk, rfl, HKP, HQ, HM⟩ := hrel
      have z2 := HQ.out.cell 2
      have lq := HQ.out.lt
      simp at z2
      by_cases hlt : k < 2
      · have hkI : (k : Int) < 2 := by omega
        have hkw : IntKind.i64.wrap (k : Int) = (k : Int) := by rw [IntKind.wrap_i64]; omega
        obtain ⟨⟨cz, hb0, hsz, hent⟩, hrows⟩ := HM.out
        obtain ⟨⟨xs0, r1⟩, ys0, r2⟩ := hrows k hlt
        obtain ⟨A, cA, eA, -⟩ := own_form r1
        obtain ⟨D, cD, eD, -⟩ := own_form r2
        have hmA : ∀ g, (v k).1.ownBlock = some g → g ∈ (gc :: blks [(v 0).1, (v 0).2, (v 1).1, (v 1).2]) := fun g hg => List.mem_cons_of_mem _ (List.mem_filterMap.2 ⟨(v k).1, by rcases (by omega : k = 0 ∨ k = 1) with rfl | rfl <;> simp, hg⟩)
        have hmD : ∀ g, (v k).2.ownBlock = some g → g ∈ (gc :: blks [(v 0).1, (v 0).2, (v 1).1, (v 1).2]) := fun g hg => List.mem_cons_of_mem _ (List.mem_filterMap.2 ⟨(v k).2, by rcases (by omega : k = 0 ∨ k = 1) with rfl | rfl <;> simp, hg⟩)
        have y1 := (hb0.cell (k * 11 + 1)).trans (hent k (Nat.le_refl _) hlt).1
        have lc := hb0.lt
        rw [eA] at y1
        clear hb0 hsz hent hrows r1 r2
        go_wp2_with fail
        go_loopw [52] (fun i wr => ∃ j : Nat, j ≤ na k ∧ i = .int .i64 (j : Int) ∧ Hid (Kept (gc :: blks [(v 0).1, (v 0).2, (v 1).1, (v 1).2]) w wr) ∧ Hid (Blk wr q 25 #[.slice none 0 0, .int .i64 0, .slice (some ⟨gc, 0, none⟩) 2 2]) ∧ Hid (SpM wr gc k v na nb)) (fun i _ => na k - (intOf i).toNat)
        case atStart => exact ⟨0, by omega, rfl, HKP, HQ, HM⟩
        case round =>
          clear HKP HQ HM z2 lq y1 lc
          obtain ⟨j, hj, rfl, HKP, HQ, HM⟩ := hrel
          have z2 := HQ.out.cell 2
          have lq := HQ.out.lt
          simp at z2
          obtain ⟨⟨cz, hb0, hsz, hent⟩, hrows⟩ := HM.out
          have lc := hb0.lt
          by_cases hjl : j < na k
          · obtain ⟨⟨xs1, r1⟩, ys1, r2⟩ := hrows k hlt
            have y1 := (hb0.cell (k * 11 + 1)).trans (hent k (Nat.le_refl _) hlt).1
            rw [eA] at y1 r1
            obtain ⟨gA, cB, eB⟩ := own_head r1 (by omega)
            injection eB with eB1 _ eB2
            subst eB1 eB2
            have hgA := hmA gA (by rw [eA]; rfl)
            have hne := HM.out.ne r1 (by decide) rfl
            have hqA : gA ≠ q := fun e => by
              subst e
              obtain ⟨cy, hy⟩ := own_ty r1 (g := gA) rfl
              have h2 := HQ.out
              unfold Blk at h2
              rw [hy] at h2
              injection h2 with h2
              injection h2 with _ h2 _
              exact absurd h2 (by decide)
            have hnak := hna k
            have hjw : IntKind.i64.wrap (j : Int) = (j : Int) := by rw [IntKind.wrap_i64]; omega
            have hjI : (j : Int) < (na k : Int) := by omega
            have R1 := Lib.hid r1
            clear hb0 hsz hent hrows r1 r2
            go_upto_region 17 with fail
            obtain ⟨X0, HX⟩ : ∃ X, Hid (X = wr.drew) := ⟨_, rfl⟩
            have hd0 : Below wr.heap.size wr X0 := by rw [HX.out]; exact bDrew _
            have HD0 := Lib.hid hd0
            refine wp_region_N (fun w' => w'.cell? ⟨q, 2, none⟩ = some (.slice (some ⟨gc, 0, none⟩) 2 2) ∧ w'.cell? ⟨gc, k * 11 + 1, none⟩ = some (.slice (some ⟨gA, 0, none⟩) (na k) cA) ∧ q < w'.heap.size ∧ gc < w'.heap.size) (fun j => decide (j < 9)) (by kernel_rfl) ?_
            rw [← HX.out]
            clear hd0
            have hS0 : (fun w' => w'.cell? ⟨q, 2, none⟩ = some (.slice (some ⟨gc, 0, none⟩) 2 2) ∧ w'.cell? ⟨gc, k * 11 + 1, none⟩ = some (.slice (some ⟨gA, 0, none⟩) (na k) cA) ∧ q < w'.heap.size ∧ gc < w'.heap.size) X0 := by rw [HX.out]; exact ⟨z2, y1, lq, lc⟩
            clear HX
            refine wpAnyN_take (i := 0) (v := ?v1) rfl (by kernel_rfl) (by kernel_rfl) (by kernel_rfl) (by kernel_rfl) (fun _ _ _ h => h) (Or.inl ⟨by rfl, ?hy1⟩) (by assumption) ?_
            case hy1 => intro w hSw; obtain ⟨e0, e1, e2, e3⟩ := hSw; go_simp; try with_reducible rfl
            simp only [Act.put, List.getElem_toArray, List.getElem_cons_zero, List.setIfInBounds_toArray, List.set_cons_zero, List.set_cons_succ]
            refine wpAnyN_take (i := 1) (v := ?v2) rfl (by kernel_rfl) (by kernel_rfl) (by kernel_rfl) (by kernel_rfl) (fun _ _ _ h => h) (Or.inl ⟨by rfl, ?hy2⟩) (by assumption) ?_
            case hy2 => intro w hSw; obtain ⟨e0, e1, e2, e3⟩ := hSw; go_simp; try with_reducible rfl
            simp only [Act.put, List.getElem_toArray, List.getElem_cons_zero, List.getElem_cons_succ, List.setIfInBounds_toArray, List.set_cons_zero, List.set_cons_succ]
            refine wpAnyN_take (i := 2) (v := ?v3) rfl (by kernel_rfl) (by kernel_rfl) (by kernel_rfl) (by kernel_rfl) (fun _ _ _ h => h) (Or.inl ⟨by rfl, ?hy3⟩) (by assumption) ?_
            case hy3 => intro w hSw; obtain ⟨e0, e1, e2, e3⟩ := hSw; go_simp; try with_reducible rfl
            simp only [Act.put, List.getElem_toArray, List.getElem_cons_zero, List.getElem_cons_succ, List.setIfInBounds_toArray, List.set_cons_zero, List.set_cons_succ]
            refine wpAnyN_take (i := 3) (v := ?v4) rfl (by kernel_rfl) (by kernel_rfl) (by kernel_rfl) (by kernel_rfl) (fun _ _ _ h => h) (Or.inl ⟨by rfl, ?hy4⟩) (by assumption) ?_
            case hy4 => intro w hSw; obtain ⟨e0, e1, e2, e3⟩ := hSw; go_simp; try with_reducible rfl
            simp only [Act.put, List.getElem_toArray, List.getElem_cons_zero, List.getElem_cons_succ, List.setIfInBounds_toArray, List.set_cons_zero, List.set_cons_succ]
            refine wpAnyN_take (i := 4) (v := ?v5) rfl (by kernel_rfl) (by kernel_rfl) (by kernel_rfl) (by kernel_rfl) (fun _ _ _ h => h) (Or.inl ⟨by rfl, ?hy5⟩) (by assumption) ?_
            case hy5 => intro w hSw; obtain ⟨e0, e1, e2, e3⟩ := hSw; go_simp; try with_reducible rfl
            simp only [Act.put, List.getElem_toArray, List.getElem_cons_zero, List.getElem_cons_succ, List.setIfInBounds_toArray, List.set_cons_zero, List.set_cons_succ]
            refine wpAnyN_take (i := 5) (v := ?v6) rfl (by kernel_rfl) (by kernel_rfl) (by kernel_rfl) (by kernel_rfl) (fun _ _ _ h => h) (Or.inl ⟨by rfl, ?hy6⟩) (by assumption) ?_
            case hy6 => intro w hSw; obtain ⟨e0, e1, e2, e3⟩ := hSw; go_simp; try with_reducible rfl
            simp only [Act.put, List.getElem_toArray, List.getElem_cons_zero, List.getElem_cons_succ, List.setIfInBounds_toArray, List.set_cons_zero, List.set_cons_succ]
            refine wpAnyN_take (i := 6) (v := ?v7) rfl (by kernel_rfl) (by kernel_rfl) (by kernel_rfl) (by kernel_rfl) (fun _ _ _ h => h) (Or.inl ⟨by rfl, ?hy7⟩) (by assumption) ?_
            case hy7 => intro w hSw; obtain ⟨e0, e1, e2, e3⟩ := hSw; go_simp; try with_reducible rfl
            simp only [Act.put, List.getElem_toArray, List.getElem_cons_zero, List.getElem_cons_succ, List.setIfInBounds_toArray, List.set_cons_zero, List.set_cons_succ]
            refine wpAnyN_one (i := 7) (by kernel_rfl) rfl (fun K hK => ?_)
            simp only [List.getElem_toArray, List.getElem_cons_zero, List.getElem_cons_succ]
            go_simp
            refine (cell_any (-77) X0).mono ?_
            rintro e w1 ⟨rfl, hb1⟩
            have HB1 := Lib.hid (bNext HD0.out hb1)
            have hS1 : (fun w' => w'.cell? ⟨q, 2, none⟩ = some (.slice (some ⟨gc, 0, none⟩) 2 2) ∧ w'.cell? ⟨gc, k * 11 + 1, none⟩ = some (.slice (some ⟨gA, 0, none⟩) (na k) cA) ∧ q < w'.heap.size ∧ gc < w'.heap.size) w1 := ⟨(hb1.cell (p := ⟨q, 2, none⟩) hS0.2.2.1).trans hS0.1, (hb1.cell (p := ⟨gc, k * 11 + 1, none⟩) hS0.2.2.2).trans hS0.2.1, Nat.lt_of_lt_of_le hS0.2.2.1 hb1.size, Nat.lt_of_lt_of_le hS0.2.2.2 hb1.size⟩
            clear hb1
            refine hK _ _ (fun _ => hS1) ?_
            (try simp only [Act.put, List.setIfInBounds_toArray, List.set_cons_zero, List.set_cons_succ])
            refine wpAnyN_take (i := 8) (v := ?v8) rfl (by kernel_rfl) (by kernel_rfl) (by kernel_rfl) (by kernel_rfl) (fun _ _ _ h => h) (Or.inl ⟨by rfl, ?hy8⟩) (by assumption) ?_
            case hy8 => intro w hSw; obtain ⟨e0, e1, e2, e3⟩ := hSw; go_simp; try with_reducible rfl
            simp only [Act.put, List.getElem_toArray, List.getElem_cons_zero, List.getElem_cons_succ, List.setIfInBounds_toArray, List.set_cons_zero, List.set_cons_succ]
            refine wpAnyN_one (i := 9) (by kernel_rfl) rfl (fun K hK => ?_)
            simp only [List.getElem_toArray, List.getElem_cons_zero, List.getElem_cons_succ]
            go_simp
            have rr := own_stay (w' := w1) R1.out fun g hg => HB1.out.block g (R1.out.lt g hg).2
            have f0 := rr.frozenAt (j * 2)
            have gl2 := (rr.lt gA rfl).2
            have hxl := rr.1
            obtain ⟨u0, hu0⟩ : ∃ u, xs1[j * 2]? = some u := ⟨_, List.getElem?_eq_getElem (by omega)⟩
            obtain ⟨u1, hu1⟩ : ∃ u, xs1[j * 2 + 1]? = some u := ⟨_, List.getElem?_eq_getElem (by omega)⟩
            have t0 := own_cell rr hu0
            have s1 := (rr.stored (j * 2) (.int .i64 1)).1
            have f1 := s1.frozenAt (j * 2 + 1)
            have t1 := own_cell (j := j * 2 + 1) (u := u1) s1 (by rw [List.getElem?_set_ne (by omega)]; exact hu1)
            clear s1 rr
            go_simp
            refine hK _ _ (fun h => absurd h (by decide)) ?_
            (try simp only [Act.put, List.setIfInBounds_toArray, List.set_cons_zero, List.set_cons_succ])
            refine wpAnyN_done (by kernel_rfl) ?_ _
            have HM1 := Lib.hid (((HM.out.below HB1.out).set hne (j * 2) (.int .i64 1)).set hne (j * 2 + 1) (.int .i64 (-77)))
            have huA := ((Upd.refl gA w1).set (j * 2) (.int .i64 1)).set (j * 2 + 1) (.int .i64 (-77))
            have HKP1 := Lib.hid ((HKP.out.trans (Kept.below HB1.out)).trans (Kept.upd huA hgA))
            have HQ1 := Lib.hid (show Blk _ q 25 _ from (huA.block q (Ne.symm hqA)).trans (HQ.out.next HB1.out))
            have hj1 : IntKind.i64.wrap ((j : Int) + 1) = (j : Int) + 1 := by rw [IntKind.wrap_i64]; omega
            clear huA hS0 hS1 z2 y1 lq lc
            go_wp2_with fail
            exact ⟨⟨j + 1, by omega, by go_num, HKP1, HQ1, HM1⟩, by simp [intOf]; omega⟩
          · obtain rfl : j = na k := by omega
            have y9 := (hb0.cell (k * 11 + 9)).trans (hent k (Nat.le_refl _) hlt).2
            rw [eD] at y9
            clear hb0 hsz hent hrows
            go_wp2_with fail
            go_loopw [72] (fun i wr => ∃ j : Nat, j ≤ nb k ∧ i = .int .i64 (j : Int) ∧ Hid (Kept (gc :: blks [(v 0).1, (v 0).2, (v 1).1, (v 1).2]) w wr) ∧ Hid (Blk wr q 25 #[.slice none 0 0, .int .i64 0, .slice (some ⟨gc, 0, none⟩) 2 2]) ∧ Hid (SpM wr gc k v na nb)) (fun i _ => nb k - (intOf i).toNat)
            case atStart => exact ⟨0, by omega, rfl, HKP, HQ, HM⟩
            case round =>
              clear HKP HQ HM z2 lq y9 lc
              obtain ⟨j, hj, rfl, HKP, HQ, HM⟩ := hrel
              have z2 := HQ.out.cell 2
              have lq := HQ.out.lt
              simp at z2
              obtain ⟨⟨cz, hb0, hsz, hent⟩, hrows⟩ := HM.out
              have lc := hb0.lt
              by_cases hjl : j < nb k
              · obtain ⟨⟨xs1, r1⟩, ys1, r2⟩ := hrows k hlt
                have y9 := (hb0.cell (k * 11 + 9)).trans (hent k (Nat.le_refl _) hlt).2
                rw [eD] at y9 r2
                obtain ⟨gD, cB, eB⟩ := own_head r2 (by omega)
                injection eB with eB1 _ eB2
                subst eB1 eB2
                have hgD := hmD gD (by rw [eD]; rfl)
                have hne := HM.out.ne r2 (by decide) rfl
                have hqD : gD ≠ q := fun e => by
                  subst e
                  obtain ⟨cy, hy⟩ := own_ty r2 (g := gD) rfl
                  have h2 := HQ.out
                  unfold Blk at h2
                  rw [hy] at h2
                  injection h2 with h2
                  injection h2 with _ h2 _
                  exact absurd h2 (by decide)
                have hnbk := hnb k
                have hjw : IntKind.i64.wrap (j : Int) = (j : Int) := by rw [IntKind.wrap_i64]; omega
                have hjI : (j : Int) < (nb k : Int) := by omega
                have f0 := r2.frozenAt j
                have gl2 := (r2.lt gD rfl).2
                have hxl := r2.1
                obtain ⟨u0, hu0⟩ : ∃ u, ys1[j]? = some u := ⟨_, List.getElem?_eq_getElem (by omega)⟩
                have t0 := own_cell r2 hu0
                have HM1 := Lib.hid (HM.out.set hne j (.int .i64 (-77)))
                have huA := (Upd.refl gD wr).set j (.int .i64 (-77))
                have HKP1 := Lib.hid (HKP.out.trans (Kept.upd huA hgD))
                have HQ1 := Lib.hid (show Blk _ q 25 _ from (huA.block q (Ne.symm hqD)).trans HQ.out)
                have hj1 : IntKind.i64.wrap ((j : Int) + 1) = (j : Int) + 1 := by rw [IntKind.wrap_i64]; omega
                clear hb0 hsz hent hrows r1 r2 huA hxl hu0
                go_wp2_with fail
                exact ⟨⟨j + 1, by omega, by go_num, HKP1, HQ1, HM1⟩, by simp [intOf]; omega⟩
              · obtain rfl : j = nb k := by omega
                have hcell : ∀ t, t < 11 → ∃ u, wr.cell? ⟨gc, k * 11 + t, none⟩ = some u := fun t ht => ⟨_, (hb0.cell (k * 11 + t)).trans (Array.getElem?_eq_getElem (by omega))⟩
                obtain ⟨x0, m0⟩ := hcell 0 (by decide)
                have n0 := hb0.frozen (k * 11 + 0)
                obtain ⟨x1, m1⟩ := hcell 1 (by decide)
                have n1 := hb0.frozen (k * 11 + 1)
                obtain ⟨x2, m2⟩ := hcell 2 (by decide)
                have n2 := hb0.frozen (k * 11 + 2)
                obtain ⟨x3, m3⟩ := hcell 3 (by decide)
                have n3 := hb0.frozen (k * 11 + 3)
                obtain ⟨x4, m4⟩ := hcell 4 (by decide)
                have n4 := hb0.frozen (k * 11 + 4)
                obtain ⟨x5, m5⟩ := hcell 5 (by decide)
                have n5 := hb0.frozen (k * 11 + 5)
                obtain ⟨x6, m6⟩ := hcell 6 (by decide)
                have n6 := hb0.frozen (k * 11 + 6)
                obtain ⟨x7, m7⟩ := hcell 7 (by decide)
                have n7 := hb0.frozen (k * 11 + 7)
                obtain ⟨x8, m8⟩ := hcell 8 (by decide)
                have n8 := hb0.frozen (k * 11 + 8)
                obtain ⟨x9, m9⟩ := hcell 9 (by decide)
                have n9 := hb0.frozen (k * 11 + 9)
                obtain ⟨x10, m10⟩ := hcell 10 (by decide)
                have n10 := hb0.frozen (k * 11 + 10)
                rw [Nat.add_zero] at m0 n0
                have HK0 := Lib.hid hb0
                have HSZ := Lib.hid hsz
                have HENT := Lib.hid hent
                have HROWS := Lib.hid hrows
                have hqc : q ≠ gc := fun e => by
                  have h1 := HQ.out
                  have h2 := HK0.out
                  rw [e] at h1
                  unfold Blk at h1 h2
                  rw [h1] at h2
                  injection h2 with h2
                  injection h2 with _ h2 _
                  exact absurd h2 (by decide)
                have huC := ((((((((((((Upd.refl gc wr).set (k * 11) (.int .i64 0)).set (k * 11 + 1) (.slice none 0 0)).set (k * 11 + 2) (.int .i64 (-1))).set (k * 11 + 3) (.int .i64 0)).set (k * 11 + 4) (.int .i64 0)).set (k * 11 + 5) (.int .i64 0)).set (k * 11 + 6) (.int .i64 0)).set (k * 11 + 7) (.int .i64 0)).set (k * 11 + 8) (.int .i64 0)).set (k * 11 + 9) (.slice none 0 0)).set (k * 11 + 10) (.int .i64 0))
                have HM1 := Lib.hid (SpM.setC (SpM.setC (SpM.setC (SpM.setC (SpM.setC (SpM.setC (SpM.setC (SpM.setC (SpM.setC (SpM.setC (SpM.setC HM.out (by omega : _ ≤ k + 1) (by omega : k * 11 < (k + 1) * 11) (.int .i64 0)) (by omega : _ ≤ k + 1) (by omega : k * 11 + 1 < (k + 1) * 11) (.slice none 0 0)) (by omega : _ ≤ k + 1) (by omega : k * 11 + 2 < (k + 1) * 11) (.int .i64 (-1))) (by omega : _ ≤ k + 1) (by omega : k * 11 + 3 < (k + 1) * 11) (.int .i64 0)) (by omega : _ ≤ k + 1) (by omega : k * 11 + 4 < (k + 1) * 11) (.int .i64 0)) (by omega : _ ≤ k + 1) (by omega : k * 11 + 5 < (k + 1) * 11) (.int .i64 0)) (by omega : _ ≤ k + 1) (by omega : k * 11 + 6 < (k + 1) * 11) (.int .i64 0)) (by omega : _ ≤ k + 1) (by omega : k * 11 + 7 < (k + 1) * 11) (.int .i64 0)) (by omega : _ ≤ k + 1) (by omega : k * 11 + 8 < (k + 1) * 11) (.int .i64 0)) (by omega : _ ≤ k + 1) (by omega : k * 11 + 9 < (k + 1) * 11) (.slice none 0 0)) (by omega : _ ≤ k + 1) (by omega : k * 11 + 10 < (k + 1) * 11) (.int .i64 0))
                have HKP1 := Lib.hid (HKP.out.trans (Kept.upd huC List.mem_cons_self))
                have HQ1 := Lib.hid (show Blk _ q 25 _ from (huC.block q hqc).trans HQ.out)
                have hk1 : IntKind.i64.wrap ((k : Int) + 1) = (k : Int) + 1 := by rw [IntKind.wrap_i64]; omega
                clear hb0 hsz hent hrows hcell huC
                go_wp2_with fail
                exact ⟨⟨k + 1, by omega, by go_num, HKP1, HQ1, HM1⟩, by simp [intOf]; omega⟩
      · obtain rfl : k = 2 := by omega
        go_wp2_with fail
        go_end0
        exact ⟨rfl, HKP.out⟩
end
section
open Go.RowKit

def PairA (w : World) (B q5 q6 : Nat) (p : St) (vs : List Value) : Prop := ∃ ve vc ys cs ve' vc' ys' cs', Stk w B q5 p ve vc ys cs ∧ Stk w B q6 p ve' vc' ys' cs' ∧ (∀ g ∈ foot q5 ve vc ys cs, g ∉ foot q6 ve' vc' ys' cs') ∧
  ∀ v ∈ vs, ∀ g, v.ownBlock = some g → g ∉ foot q5 ve vc ys cs ∧ g ∉ foot q6 ve' vc' ys' cs'
theorem PairA.next {w w' : World} {B q5 q6 : Nat} {p : St} {vs : List Value} (h : PairA w B q5 q6 p vs) (hb : Below w.heap.size w w') : PairA w' B q5 q6 p vs := by
  obtain ⟨ve, vc, ys, cs, ve', vc', ys', cs', h1, h2, h3, h4⟩ := h
  exact ⟨_, _, _, _, _, _, _, _, h1.next hb, h2.next hb, h3, h4⟩
theorem PairA.new {w w' : World} {B q5 q6 : Nat} {p : St} {vs : List Value} (h : PairA w B q5 q6 p vs) (hb : Below w.heap.size w w') (v : Value) (hv : ∀ g, v.ownBlock = some g → w.heap.size ≤ g) : PairA w' B q5 q6 p (v :: vs) := by
  obtain ⟨ve, vc, ys, cs, ve', vc', ys', cs', h1, h2, h3, h4⟩ := h
  refine ⟨_, _, _, _, _, _, _, _, h1.next hb, h2.next hb, h3, fun u hu g hg => ?_⟩
  rcases List.mem_cons.1 hu with rfl | hu
  · have hz := hv g hg
    exact ⟨fun hm => by have := h1.foot_lt g hm; omega, fun hm => by have := h2.foot_lt g hm; omega⟩
  · exact h4 u hu g hg
theorem PairA.kept {w w' : World} {B q5 q6 : Nat} {p : St} {vs : List Value} (h : PairA w B q5 q6 p vs) (hk : Kept (blks vs) w w') : PairA w' B q5 q6 p [] := by
  obtain ⟨ve, vc, ys, cs, ve', vc', ys', cs', h1, h2, h3, h4⟩ := h
  have hn : ∀ g, g ∈ blks vs → g ∉ foot q5 ve vc ys cs ∧ g ∉ foot q6 ve' vc' ys' cs' := fun g hg => by
    obtain ⟨v, hv, e⟩ := List.mem_filterMap.1 hg
    exact h4 v hv g e
  exact ⟨_, _, _, _, _, _, _, _, h1.stayF fun g hg => hk.block g (h1.foot_lt g hg) fun hm => (hn g hm).1 hg, h2.stayF fun g hg => hk.block g (h2.foot_lt g hg) fun hm => (hn g hm).2 hg, h3, fun v hv => by cases hv⟩
theorem PairA.at {w : World} {B q5 q6 : Nat} {p : St} {vs : List Value} (h : PairA w B q5 q6 p vs) : ∃ A c A' c' D d D' d', Blk w q5 25 #[.slice A p.envs.length c, .int .i64 p.e, .slice A' p.chs.length c'] ∧ StAt w A c A' c' p ∧ Blk w q6 25 #[.slice D p.envs.length d, .int .i64 p.e, .slice D' p.chs.length d'] ∧ StAt w D d D' d' p := by
  obtain ⟨ve, vc, ys, cs, ve', vc', ys', cs', h1, h2, h3, h4⟩ := h
  obtain ⟨A, c, A', c', rfl, rfl, k1⟩ := h1.at
  obtain ⟨D, d, D', d', rfl, rfl, k2⟩ := h2.at
  exact ⟨_, _, _, _, _, _, _, _, h1.box, k1, h2.box, k2⟩
theorem PairA.low {w : World} {B q5 q6 : Nat} {p : St} {vs : List Value} (h : PairA w B q5 q6 p vs) : B ≤ w.heap.size := by
  obtain ⟨ve, vc, ys, cs, ve', vc', ys', cs', h1, h2, h3, h4⟩ := h
  exact Nat.le_of_lt (Nat.lt_of_le_of_lt h1.low h1.box.lt)
/-- behind the law's Do and Want -/
theorem pair_do {w1 w2 w3 : World} {B q5 q6 b z : Nat} {F5 F6 : List Nat} {p : St} {x : Ch} {oc oc' : Value × Value} {vs : List Value} (h5 : StO w1 B q5 F5 b p x oc) (h6 : StO w3 B q6 F6 w2.heap.size p x oc') (h12 : Below w1.heap.size w1 w2) (hk : Kept F6 w2 w3) (hb : b ≤ w1.heap.size)
    (hF5 : ∀ g ∈ F5, g < z) (hF6 : ∀ g ∈ F6, g < z) (hz : z ≤ b) (hd : ∀ g ∈ F5, g ∉ F6) (hv : ∀ v ∈ vs, ∀ g, v.ownBlock = some g → z ≤ g ∧ g < b) :
    PairA w3 B q5 q6 p (oc.1 :: oc.2 :: vs) ∧ w3.ownsRow 0 38 2 oc.1 x.args.length (cCs x.args) ∧ w3.ownsRow 0 2 1 oc.2 x.alts.length (iCs x.alts) ∧ w3.ownsRow 0 38 2 oc'.1 x.args.length (cCs x.args) ∧ w3.ownsRow 0 2 1 oc'.2 x.alts.length (iCs x.alts) := by
  obtain ⟨ve, vc, ys, cs, hs, hf, ha, hc, hap⟩ := h5
  obtain ⟨ve', vc', ys', cs', hs', hf', ha', hc', hap'⟩ := h6
  have z12 := h12.size
  have nF6 : ∀ g, (g ∈ F5 ∨ b ≤ g) → g ∉ F6 := fun g hg hm => by
    rcases hg with h1 | h1
    · exact hd g h1 hm
    · have := hF6 g hm; omega
  have keep : ∀ g, g < w1.heap.size → (g ∈ F5 ∨ b ≤ g) → w3.heap[g]? = w1.heap[g]? := fun g hg hg2 => (hk.block g (Nat.lt_of_lt_of_le hg z12) (nF6 g hg2)).trans (h12.block g hg)
  have nf6 : ∀ g, g < w1.heap.size → (g ∈ F5 ∨ b ≤ g) → g ∉ foot q6 ve' vc' ys' cs' := fun g hg hg2 hm => by
    rcases hf' g hm with h1 | h1
    · exact nF6 g hg2 h1
    · omega
  refine ⟨⟨ve, vc, ys, cs, ve', vc', ys', cs', hs.stayF fun g hg => keep g (hs.foot_lt g hg) (hf g hg), hs', fun g hg => nf6 g (hs.foot_lt g hg) (hf g hg), fun v hvm g hg => ?_⟩,
    own_stay ha fun g hg => keep g (ha.lt g hg).2 (hap g (.inl hg)).2, own_stay hc fun g hg => keep g (hc.lt g hg).2 (hap g (.inr hg)).2, ha', hc'⟩
  rcases List.mem_cons.1 hvm with rfl | hvm
  · exact ⟨(hap g (.inl hg)).1, nf6 g (ha.lt g hg).2 (hap g (.inl hg)).2⟩
  rcases List.mem_cons.1 hvm with rfl | hvm
  · exact ⟨(hap g (.inr hg)).1, nf6 g (hc.lt g hg).2 (hap g (.inr hg)).2⟩
  obtain ⟨h1, h2⟩ := hv v hvm g hg
  exact ⟨fun hm => by
    rcases hf g hm with h3 | h3
    · have := hF5 g h3; omega
    · omega, fun hm => by
    rcases hf' g hm with h3 | h3
    · have := hF6 g h3; omega
    · omega⟩
/-- a whole block that was written from end to end -/
theorem setCells_size {b t : Nat} : ∀ (vs : List Value) (o : Nat) (w : World) (cs : Array Value), Blk w b t cs → ∃ cs', Blk (w.setCells b o vs) b t cs' ∧ cs'.size = cs.size
  | [], _, _, cs, h => ⟨cs, h, rfl⟩
  | v :: r, o, w, cs, h => by
    rw [World.setCells]
    obtain ⟨cs', h1, h2⟩ := setCells_size r (o + 1) _ _ (h.set_ o v)
    exact ⟨cs', h1, by rw [h2]; simp⟩
theorem box_blk (w : World) (t : TypeId) (zs cs : List Value) (hl : cs.length = zs.length) : Blk ((w.alloc (.cells zs.toArray t)).setCells w.heap.size 0 cs) w.heap.size t cs.toArray := by
  obtain ⟨cs', h1, h2⟩ := setCells_size cs 0 _ _ (Blk.new w t zs.toArray)
  have h3 := (box_new w t zs cs hl).1
  have : cs' = cs.toArray := by
    apply Array.ext_getElem?
    intro j
    rw [← h1.cell j]
    by_cases hj : j < cs.length
    · have h4 := h3 j _ (List.getElem?_eq_getElem hj)
      rw [Nat.zero_add] at h4
      rw [h4, List.getElem?_toArray, List.getElem?_eq_getElem hj]
    · rw [h1.cell j, Array.getElem?_eq_none (by simp at h2; omega), Array.getElem?_eq_none (by simpa using hj)]
  rw [← this]
  exact h1
/-- a clone's rows are below the heap's end -/
theorem StkV.lt {w : World} {B q : Nat} {s : St} {ve vc : Value} {ys : List Value} {cs : List (Value × Value)} (h : StkV w B s ve vc ys cs) : ∀ g ∈ foot q ve vc ys cs, g = q ∨ (B ≤ g ∧ g < w.heap.size) := by
  intro g hg
  rcases List.mem_cons.1 hg with rfl | hg
  · exact .inl rfl
  refine .inr ?_
  obtain ⟨v, hv, e⟩ := List.mem_filterMap.1 hg
  simp only [List.cons_append, List.mem_cons, List.mem_append] at hv
  rcases hv with rfl | rfl | ((hv | hv) | hv)
  · exact h.envs.lt g e
  · exact h.chs.lt g e
  · obtain ⟨i, hi⟩ := List.mem_iff_getElem?.1 hv
    have hl := (List.getElem?_eq_some_iff.1 hi).1
    exact (h.yrow i _ v (List.getElem?_eq_getElem (by rw [← h.ylen]; exact hl)) hi).lt g e
  · obtain ⟨c, hc, rfl⟩ := List.mem_map.1 hv
    obtain ⟨i, hi⟩ := List.mem_iff_getElem?.1 hc
    have hl := (List.getElem?_eq_some_iff.1 hi).1
    exact (h.crow i _ c (List.getElem?_eq_getElem (by rw [← h.clen]; exact hl)) hi).1.lt g e
  · obtain ⟨c, hc, rfl⟩ := List.mem_map.1 hv
    obtain ⟨i, hi⟩ := List.mem_iff_getElem?.1 hc
    have hl := (List.getElem?_eq_some_iff.1 hi).1
    exact (h.crow i _ c (List.getElem?_eq_getElem (by rw [← h.clen]; exact hl)) hi).2.lt g e
/-- two clones and their boxes -/
theorem pair_of {w : World} {B z q5 q6 : Nat} {p : St} {ve vc ve' vc' : Value} {ys ys' : List Value} {cs cs' : List (Value × Value)} (h1 : StkV w B p ve vc ys cs) (hz : ∀ g ∈ foot q5 ve vc ys cs, g = q5 ∨ g < z) (h2 : StkV w z p ve' vc' ys' cs') (hBz : B ≤ z)
    (k1 : Blk w q5 25 #[ve, .int .i64 p.e, vc]) (k2 : Blk w q6 25 #[ve', .int .i64 p.e, vc']) (hB5 : B ≤ q5) (hB6 : B ≤ q6) (hne : q5 ≠ q6) : PairA w B q5 q6 p [] := by
  have s1 := h1.box k1 hB5
  have h2' : StkV w B p ve' vc' ys' cs' := ⟨own_base h2.envs hBz, own_base h2.chs hBz, h2.ylen, h2.clen, fun i x v hx hv => own_base (h2.yrow i x v hx hv) hBz, fun i x v hx hv => ⟨own_base (h2.crow i x v hx hv).1 hBz, own_base (h2.crow i x v hx hv).2 hBz⟩, h2.nodup⟩
  have s2 := h2'.box k2 hB6
  refine ⟨_, _, _, _, _, _, _, _, s1, s2, fun g hg hm => ?_, fun v hv => by cases hv⟩
  rcases hz g hg with rfl | h3
  · exact s2.foot_ne k1 hne hm
  · rcases h2.lt g hm with rfl | h4
    · exact s1.foot_ne k2 (Ne.symm hne) hg
    · omega
end
end Go.Proofs.Ytpkpffnabcgcbaa
