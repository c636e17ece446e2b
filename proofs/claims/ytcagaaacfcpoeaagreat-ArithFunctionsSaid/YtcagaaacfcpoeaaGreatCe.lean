/-
  Walks: apply with the numbering of variables.
-/
import Derived.Test.YtcagaaacfcpoeaaGreatCd
import Derived.Deep.RegionHeld3
import Derived.Deep.AppendLies
namespace Go.Proofs.YtcagaaacfcpoeaaGreat
open Go.RowKit

def IK (pm gm : Nat) (l : List Int) (w : World) : Prop := pm ≠ gm ∧ IM pm gm l w
theorem IK.stay {pm gm : Nat} {l : List Int} {w w' : World} (h : IK pm gm l w) (h1 : w'.heap[gm]? = w.heap[gm]?) (h2 : w'.heap[pm]? = w.heap[pm]?) : IK pm gm l w' := ⟨h.1, h.2.stay h1 h2⟩
set_option maxRecDepth 100000 in
set_option maxHeartbeats 4000000 in
theorem applyK_any (gm pm : Nat) (N : Nat) : ∀ (t : Tm) (l : List Int), cnt t < N → cnt t ≤ 2000 → l.length + cnt t ≤ 4000 → okT t = true → ∀ (A : Option Addr) (c : Nat) (w : World), gm < w.heap.size → pm < w.heap.size → IK pm gm l w → ArgsAt w (Nq w gm) A t.args →
    Calls Tryz.prog 76 #[t.v A c, .func (.func 77) #[] #[.pointer (some ⟨pm, 0, none⟩)]] w fun e w' => (∃ A' c', e = .returned (Tm.v (apT (posI) t l).1 A' c') ∧ ArgsAt w' (fun b => w.heap.size ≤ b ∧ b < w'.heap.size) A' (apT (posI) t l).1.args) ∧ IK pm gm (apT (posI) t l).2 w' ∧ KeptQ gm w w' := by
  obtain ⟨i1, hi1, hy0, hy1, hy2⟩ := info_parts info47
  induction N with
  | zero => intro t l h; omega
  | succ N ih =>
    intro t l hN h2 hl4 hok A c w hgm hpm hI ha
    have hlen := args_le t
    have HA := Lib.hid ha
    have HI := Lib.hid hI
    have HOK := Lib.hid hok
    obtain ⟨W, HW⟩ : ∃ X, Hid (X = (w.alloc (.cells #[.int .i64 t.kind, .int .i64 t.n, .string t.name, .slice A t.args.length c] 24)).alloc (.cells #[.int .i64 0, .int .i64 0, .string { data := #[] }, .slice none 0 0] 24)) := ⟨_, rfl⟩
    have hbW : Below w.heap.size w W := by rw [HW.out]; exact (bAlloc w _).alloc (by simp) _
    have hzW : W.heap.size = w.heap.size + 2 := by rw [HW.out]; simp
    obtain ⟨q, hq⟩ : ∃ q, Hid (q = w.heap.size) := ⟨_, rfl⟩
    obtain ⟨r, hr⟩ : ∃ q, Hid (q = w.heap.size + 1) := ⟨_, rfl⟩
    have hk0 : Blk W q 24 #[.int .i64 t.kind, .int .i64 t.n, .string t.name, .slice A t.args.length c] := by rw [HW.out, hq.out]; exact (Blk.new w _ _).alloc _
    have hk1 : Blk W r 24 #[.int .i64 0, .int .i64 0, .string { data := #[] }, .slice none 0 0] := by
      rw [HW.out, hr.out]
      have h1 := Blk.new (w.alloc (.cells #[.int .i64 t.kind, .int .i64 t.n, .string t.name, .slice A t.args.length c] 24)) 24 #[.int .i64 0, .int .i64 0, .string { data := #[] }, .slice none 0 0]
      rw [World.size_alloc] at h1
      exact h1
    have HB := Lib.hid hbW
    have HK1 := Lib.hid hk1
    have e0 := hk0.cell 0
    have e1 := hk0.cell 1
    have e2 := hk0.cell 2
    have e3 := hk0.cell 3
    have el := hk0.lt
    simp at e0 e1 e2 e3
    clear ha hI hok hbW hk0 hk1
    go_enter Tryz.func76, Tryz.ntmps76
    go_upto_region 1 with fail
    rw [← HW.out, ← hr.out, ← hq.out]
    cases hk : t.kind == 0
    · have HP := Lib.hid (apT_nv (F := posI) hk l)
      have HKK := Lib.hid hk
      go_upto_region 4 with fail
      obtain ⟨W2, HW2⟩ : ∃ X, Hid (X = W.alloc (.cells #[.int .i64 t.kind, .int .i64 t.n, .string t.name, .slice none 0 0] 24)) := ⟨_, rfl⟩
      have hw2 : W.heap.size = w.heap.size + 2 := hzW
      try rw [hw2]
      rw [← HW2.out]
      have HC0 := Lib.hid (show CsQ (posI) w gm t A c l 0 (.slice none 0 0) [] W2 by rw [HW2.out, HW.out]; exact CsQ.init)
      have HIW := Lib.hid (show IK pm gm l W2 from HI.out.stay (by rw [HW2.out]; exact (bNext HB.out (bAlloc W _)).block _ hgm) (by rw [HW2.out]; exact (bNext HB.out (bAlloc W _)).block _ hpm))
      have b0 := HC0.out.box.cell 0
      have b3 := HC0.out.box.cell 3
      have bl := HC0.out.box.lt
      simp at b0 b3
      rw [hq.out]
      clear e0 e1 e2 e3 el hw2 HW2 HW HK1
      go_wp2_with fail
      go_loopw [24] (fun i wr => ∃ k v rs l1, k ≤ t.args.length ∧ i = .int .i64 ((k : Nat) : Int) ∧ Hid (CsQ (posI) w gm t A c l k v rs wr) ∧ Hid ((apT.go (posI) (t.args.take k) l).2 = l1) ∧ Hid (IK pm gm l1 wr)) (fun i _ => t.args.length - (intOf i).toNat)
      case atStart => exact ⟨0, _, _, l, by omega, rfl, HC0, Lib.hid (by simp [apT.go]), HIW⟩
      case round =>
        clear HC0 HIW b0 b3 bl
        obtain ⟨k, v, rs, l1, hk, rfl, HS, HL1, HIr⟩ := hrel
        obtain ⟨Av, cv, rfl⟩ := HS.out.row.form
        have hz := HS.out.kept.size
        have zc := HS.out.cb.lt
        have p3 := HS.out.box.cell 3
        have pl := HS.out.box.lt
        have c0 := HS.out.cb.cell 0
        have c1 := HS.out.cb.cell 1
        have c2 := HS.out.cb.cell 2
        have c3 := HS.out.cb.cell 3
        have cf := HS.out.cb.frozen 3
        simp at p3 c0 c1 c2 c3
        have hrl : rs.length ≤ 4000 := by have := HS.out.len; omega
        by_cases hlt : k < t.args.length
        · obtain ⟨b, off, x, A', c', rfl, hB, hx, ⟨y0, y1, y2, y3⟩, hA'⟩ := HA.out.at hlt
          have hcell : ∀ o, wr.cell? ⟨b, o, none⟩ = w.cell? ⟨b, o, none⟩ := fun o => World.cell?_of_block (w := w) (w' := wr) (a := ⟨b, o, none⟩) (HS.out.kept.block b hB.1 hB.2)
          have q0 := (hcell _).trans y0
          have q1 := (hcell _).trans y1
          have q2 := (hcell _).trans y2
          have q3 := (hcell _).trans y3
          have lb : b < wr.heap.size := Nat.lt_of_lt_of_le hB.1 hz
          have HX := Lib.hid hx
          have HC := Lib.hid (hA'.keep (w' := wr) (G := Nq wr gm) (fun b h => HS.out.kept.block b h.1 h.2) (fun b h => ⟨Nat.lt_of_lt_of_le h.1 hz, h.2⟩))
          have hxl := Tm.lt_of_at hx
          have hokx := okT_at (show okT.go t.args = true by have h3 := HOK.out; rw [okT_eq] at h3; simp only [Bool.and_eq_true] at h3; exact h3.2) hx
          have HOX := Lib.hid hokx
          have hl1l : l1.length + cnt x ≤ 4000 := by
            have h3 := HL1.out
            rw [apT_go_vars _ (okT_take HOK.out k)] at h3
            have h5 := varsTo_len t.args l k
            have h6 := cntTo_next hx
            have h7 := cntTo_le t.args (k + 1)
            have h8 := cnt_eq t
            unfold varsTo at h5
            rw [h3] at h5
            omega
          have aR2 : some (w.heap.size + 2) ≠ (Value.slice Av rs.length cv).ownBlock := fun e => by have := (HS.out.row.own.lt _ e.symm).1; omega
          clear hx y0 y1 y2 y3 hA' hB hokx hcell c0 c1 c2
          go_upto_region 7 with fail
          obtain ⟨X1, hX1⟩ : ∃ X, Hid (X = wr.alloc (.cells #[.int .i64 x.kind, .int .i64 x.n, .string x.name, .slice A' x.args.length c'] 24)) := ⟨_, rfl⟩
          obtain ⟨xb, hxb⟩ : ∃ q, Hid (q = wr.heap.size) := ⟨_, rfl⟩
          have hb1 : Below wr.heap.size wr X1 := by rw [hX1.out]; exact bAlloc _ _
          have hkx : Blk X1 xb 24 #[.int .i64 x.kind, .int .i64 x.n, .string x.name, .slice A' x.args.length c'] := by rw [hX1.out, hxb.out]; exact Blk.new _ _ _
          rw [← hX1.out, ← hxb.out]
          obtain ⟨D, hD⟩ : ∃ X, Hid (X = X1.drew) := ⟨_, rfl⟩
          have hbD : Below X1.heap.size X1 D := by rw [hD.out]; exact bDrewN (Below.refl _ _) 1
          have hbd := bNext hb1 hbD
          have hkD := hkx.below hbD hkx.lt
          have hxw : wr.heap.size ≤ xb := by rw [hxb.out]; exact Nat.le_refl _
          have xl := hkD.lt
          have hzD := hbd.size
          have aR1 : some xb ≠ (Value.slice Av rs.length cv).ownBlock := fun e => by have := (HS.out.row.own.lt _ e.symm).2; omega
          have hS0 : (fun w' => w'.cell? ⟨w.heap.size + 2, 3, none⟩ = some (.slice Av rs.length cv) ∧ w'.frozen? ⟨w.heap.size + 2, 3, none⟩ = false ∧ w'.cell? ⟨xb, 0, none⟩ = some (.int .i64 x.kind) ∧ w'.cell? ⟨xb, 1, none⟩ = some (.int .i64 x.n) ∧ w'.cell? ⟨xb, 2, none⟩ = some (.string x.name) ∧ w'.cell? ⟨xb, 3, none⟩ = some (.slice A' x.args.length c')) D := ⟨(hbd.cell (p := ⟨w.heap.size + 2, 3, none⟩) zc).trans c3, (hbd.frozen (p := ⟨w.heap.size + 2, 3, none⟩) zc).trans cf, by simpa using hkD.cell 0, by simpa using hkD.cell 1, by simpa using hkD.cell 2, by simpa using hkD.cell 3⟩
          have HCD := Lib.hid (HC.out.keep (w' := D) (G := Nq D gm) (fun b h => hbd.block b h.1) (fun b h => ⟨Nat.lt_of_lt_of_le h.1 hbd.size, h.2⟩))
          have HID := Lib.hid (show IK pm gm l1 D from HIr.out.stay (hbd.block _ (Nat.lt_of_lt_of_le hgm hz)) (hbd.block _ (Nat.lt_of_lt_of_le hpm hz)))
          have HBD := Lib.hid hbd
          have HCALL := Lib.hid (ih x l1 (by omega) (by omega) hl1l HOX.out A' c' D (by omega) (by omega) HID.out HCD.out)
          refine wp_region_N (fun w' => w'.cell? ⟨w.heap.size + 2, 3, none⟩ = some (.slice Av rs.length cv) ∧ w'.frozen? ⟨w.heap.size + 2, 3, none⟩ = false ∧ w'.cell? ⟨xb, 0, none⟩ = some (.int .i64 x.kind) ∧ w'.cell? ⟨xb, 1, none⟩ = some (.int .i64 x.n) ∧ w'.cell? ⟨xb, 2, none⟩ = some (.string x.name) ∧ w'.cell? ⟨xb, 3, none⟩ = some (.slice A' x.args.length c')) (fun i => decide (i ≠ 8)) (by kernel_rfl) ?_
          rw [← hD.out]
          clear hD hbD hbd hb1 hkx hX1 hkD q0 q1 q2 q3 p3 pl
          refine wpAnyN_take (i := 0) (v := ?v1) rfl (by kernel_rfl) (by kernel_rfl) (by kernel_rfl) (by kernel_rfl) (fun _ _ _ h => h) (Or.inl ⟨by rfl, ?hy1⟩) (by assumption) ?_
          case hy1 => intro w hSw; obtain ⟨a0, a1, a2, a3, a4, a5⟩ := hSw; go_simp; try with_reducible rfl
          simp only [Act.put, List.getElem_toArray, List.getElem_cons_zero, List.setIfInBounds_toArray, List.set_cons_zero, List.set_cons_succ]
          refine wpAnyN_take (i := 1) (v := ?v2) rfl (by kernel_rfl) (by kernel_rfl) (by kernel_rfl) (by kernel_rfl) (fun _ _ _ h => h) (Or.inl ⟨by rfl, ?hy2⟩) (by assumption) ?_
          case hy2 => intro w hSw; obtain ⟨a0, a1, a2, a3, a4, a5⟩ := hSw; go_simp; try with_reducible rfl
          simp only [Act.put, List.getElem_toArray, List.getElem_cons_zero, List.getElem_cons_succ, List.setIfInBounds_toArray, List.set_cons_zero, List.set_cons_succ]
          refine wpAnyN_take (i := 2) (v := ?v3) rfl (by kernel_rfl) (by kernel_rfl) (by kernel_rfl) (by kernel_rfl) (fun _ _ _ h => h) (Or.inl ⟨by rfl, ?hy3⟩) (by assumption) ?_
          case hy3 => intro w hSw; obtain ⟨a0, a1, a2, a3, a4, a5⟩ := hSw; go_simp; try with_reducible rfl
          simp only [Act.put, List.getElem_toArray, List.getElem_cons_zero, List.getElem_cons_succ, List.setIfInBounds_toArray, List.set_cons_zero, List.set_cons_succ]
          refine wpAnyN_take (i := 3) (v := ?v4) rfl (by kernel_rfl) (by kernel_rfl) (by kernel_rfl) (by kernel_rfl) (fun _ _ _ h => h) (Or.inl ⟨by rfl, ?hy4⟩) (by assumption) ?_
          case hy4 => intro w hSw; obtain ⟨a0, a1, a2, a3, a4, a5⟩ := hSw; go_simp; try with_reducible rfl
          simp only [Act.put, List.getElem_toArray, List.getElem_cons_zero, List.getElem_cons_succ, List.setIfInBounds_toArray, List.set_cons_zero, List.set_cons_succ]
          refine wpAnyN_one (i := 4) (by kernel_rfl) rfl (fun K hK => ?_)
          simp only [List.getElem_toArray, List.getElem_cons_zero, List.getElem_cons_succ]
          go_simp
          refine HCALL.out.mono ?_
          rintro e w4 ⟨⟨A4, c4, rfl, ha4⟩, hI4, hk4⟩
          obtain ⟨y, hy⟩ : ∃ y, Hid ((apT (posI) x l1).1 = y) := ⟨_, rfl⟩
          obtain ⟨l2, hl2⟩ : ∃ y, Hid ((apT (posI) x l1).2 = y) := ⟨_, rfl⟩
          rw [hy.out] at ha4
          try rw [hl2.out] at hI4
          rw [hy.out]
          obtain ⟨s1, s2, s3, s4, s5, s6⟩ := hS0
          have hz4 := hk4.size
          have kx : ∀ o, w4.cell? ⟨xb, o, none⟩ = D.cell? ⟨xb, o, none⟩ := fun o => World.cell?_of_block (w := D) (w' := w4) (a := ⟨xb, o, none⟩) (hk4.block xb xl (by omega))
          have kc := hk4.block (w.heap.size + 2) (by omega) (by omega)
          have hS4 : (fun w' => w'.cell? ⟨w.heap.size + 2, 3, none⟩ = some (.slice Av rs.length cv) ∧ w'.frozen? ⟨w.heap.size + 2, 3, none⟩ = false ∧ w'.cell? ⟨xb, 0, none⟩ = some (.int .i64 x.kind) ∧ w'.cell? ⟨xb, 1, none⟩ = some (.int .i64 x.n) ∧ w'.cell? ⟨xb, 2, none⟩ = some (.string x.name) ∧ w'.cell? ⟨xb, 3, none⟩ = some (.slice A' x.args.length c')) w4 := ⟨(World.cell?_of_block (w := D) (w' := w4) (a := ⟨w.heap.size + 2, 3, none⟩) kc).trans s1, (frozen_of_block (w := D) (w' := w4) (a := ⟨w.heap.size + 2, 3, none⟩) kc).trans s2, (kx _).trans s3, (kx _).trans s4, (kx _).trans s5, (kx _).trans s6⟩
          have HA4 := Lib.hid (ha4.keep (w' := w4) (G := fun b => wr.heap.size ≤ b ∧ b < w4.heap.size) (fun _ _ => rfl) (fun b h => ⟨by have := h.1; omega, h.2⟩))
          have HI4 := Lib.hid hI4
          have HK4 := Lib.hid ((KeptQ.of (q := gm) HBD.out).trans hk4)
          clear s1 s2 s3 s4 s5 s6 kx kc ha4 hI4 hk4
          refine hK _ _ (fun _ => hS4) ?_
          (try simp only [Act.put, List.setIfInBounds_toArray, List.set_cons_zero, List.set_cons_succ])
          refine wpAnyN_one (i := 5) (by kernel_rfl) rfl (fun K hK => ?_)
          simp only [List.getElem_toArray, List.getElem_cons_zero, List.getElem_cons_succ]
          go_simp
          have hS5 : ∀ o, (fun w' => w'.cell? ⟨w.heap.size + 2, 3, none⟩ = some (.slice Av rs.length cv) ∧ w'.frozen? ⟨w.heap.size + 2, 3, none⟩ = false ∧ w'.cell? ⟨xb, 0, none⟩ = some (.int .i64 x.kind) ∧ w'.cell? ⟨xb, 1, none⟩ = some (.int .i64 x.n) ∧ w'.cell? ⟨xb, 2, none⟩ = some (.string x.name) ∧ w'.cell? ⟨xb, 3, none⟩ = some (.slice A' x.args.length c')) (w4.alloc o) := fun o => ⟨(World.cell?_alloc_lt _ _ _ (by first | omega | (simp; omega))).trans hS4.1, (World.frozen?_alloc_past _ _ _ (by first | omega | (simp; omega))).trans hS4.2.1, (World.cell?_alloc_lt _ _ _ (by first | omega | (simp; omega))).trans hS4.2.2.1, (World.cell?_alloc_lt _ _ _ (by first | omega | (simp; omega))).trans hS4.2.2.2.1, (World.cell?_alloc_lt _ _ _ (by first | omega | (simp; omega))).trans hS4.2.2.2.2.1, (World.cell?_alloc_lt _ _ _ (by first | omega | (simp; omega))).trans hS4.2.2.2.2.2⟩
          refine hK _ _ (fun _ => hS5 _) ?_
          (try simp only [Act.put, List.setIfInBounds_toArray, List.set_cons_zero, List.set_cons_succ])
          refine wpAnyN_one (i := 6) (by kernel_rfl) rfl (fun K hK => ?_)
          simp only [List.getElem_toArray, List.getElem_cons_zero, List.getElem_cons_succ]
          rw [if_pos (by rfl)]
          have hrow4 := (HS.out.row.stay (w' := w4) (fun b h3 hlt' => HK4.out.block b hlt' (by omega)) HK4.out.size).own
          refine wp_append_lies _ _ _ 22 rfl (w.heap.size + 3) 24 i1 _ 4 56 Tryz.underlying22 hi1 hy0 hy1 hy2 rfl (by omega) _ rs.length (tmCs rs) rfl (hrow4.alloc _) ⟨w4.heap.size, 0, none⟩ 1 1 [.int .i64 y.kind, .int .i64 y.n, .string y.name, .slice A4 y.args.length c4] rfl rfl (World.news_of_block (cs := #[.int .i64 y.kind, .int .i64 y.n, .string y.name, .slice A4 y.args.length c4]) (t := 24) (fr := (0, 0)) (heap_alloc_new w4 _)) (by simp [Value.oneCell']) (by omega) (by unfold maxLen; omega) (by omega) (by simp; omega) (w4.heap.size + 1) (by simp) ?_
          intro gg cap w5 hown5 hgrow hat hlt5
          have hS6 : (fun w' => w'.cell? ⟨w.heap.size + 2, 3, none⟩ = some (.slice Av rs.length cv) ∧ w'.frozen? ⟨w.heap.size + 2, 3, none⟩ = false ∧ w'.cell? ⟨xb, 0, none⟩ = some (.int .i64 x.kind) ∧ w'.cell? ⟨xb, 1, none⟩ = some (.int .i64 x.n) ∧ w'.cell? ⟨xb, 2, none⟩ = some (.string x.name) ∧ w'.cell? ⟨xb, 3, none⟩ = some (.slice A' x.args.length c')) w5 := ⟨(hgrow.cell_far _ (by first | omega | (simp; omega)) aR2).trans (hS5 _).1, (hgrow.frozen_far _ (by first | omega | (simp; omega)) aR2).trans (hS5 _).2.1, (hgrow.cell_far _ (by first | omega | (simp; omega)) aR1).trans (hS5 _).2.2.1, (hgrow.cell_far _ (by first | omega | (simp; omega)) aR1).trans (hS5 _).2.2.2.1, (hgrow.cell_far _ (by first | omega | (simp; omega)) aR1).trans (hS5 _).2.2.2.2.1, (hgrow.cell_far _ (by first | omega | (simp; omega)) aR1).trans (hS5 _).2.2.2.2.2⟩
          refine hK _ _ (fun _ => hS6) ?_
          (try simp only [Act.put, List.setIfInBounds_toArray, List.set_cons_zero, List.set_cons_succ])
          refine wpAnyN_take (i := 7) (v := ?v5) rfl (by kernel_rfl) (by kernel_rfl) (by kernel_rfl) (by kernel_rfl) (fun _ _ _ h => h) (Or.inl ⟨by rfl, ?hy5⟩) (by assumption) ?_
          case hy5 => intro w hSw; obtain ⟨a0, a1, a2, a3, a4, a5⟩ := hSw; go_simp; try with_reducible rfl
          simp only [Act.put, List.getElem_toArray, List.getElem_cons_zero, List.getElem_cons_succ, List.setIfInBounds_toArray, List.set_cons_zero, List.set_cons_succ]
          refine wpAnyN_one (i := 8) (by kernel_rfl) rfl (fun K hK => ?_)
          obtain ⟨s61, s62, _⟩ := hS6
          have z5 := hgrow.size
          simp at z5
          simp only [List.getElem_toArray, List.getElem_cons_zero, List.getElem_cons_succ]
          go_simp
          refine hK _ _ (fun h => absurd h (by decide)) ?_
          refine wpAnyN_done (by kernel_rfl) ?_ _
          have HF := Lib.hid (HS.out.next hgm HX.out HL1.out hy.out HK4.out HA4.out (by exact hown5) (by exact hgrow) (by exact hat.elim (fun e => .inl e.symm) (fun e => .inr (by rw [World.size_alloc, e]; rfl))))
          have HLN := Lib.hid (show (apT.go (posI) (t.args.take (k + 1)) l).2 = l2 by rw [apT_go_next HX.out, HL1.out, hl2.out])
          have HIN := Lib.hid (show IK pm gm l2 (w5.setCell ⟨w.heap.size + 2, 3, none⟩ (.slice (some ⟨gg, 0, none⟩) (rs.length + 1) cap)) from HI4.out.stay ((heap_setCell_other _ _ _ _ (by simp; omega)).trans ((hgrow.block _ (by simp; omega) (fun e => by have := (HS.out.row.own.lt _ e.symm).1; omega)).trans (Below.heap_alloc w4 _ _ (by omega)))) ((heap_setCell_other _ _ _ _ (by simp; omega)).trans ((hgrow.block _ (by simp; omega) (fun e => by have := (HS.out.row.own.lt _ e.symm).1; omega)).trans (Below.heap_alloc w4 _ _ (by omega)))))
          clear hS4 hS5 hown5 hgrow hat s61 s62 hrow4
          go_wp2_with fail
          exact ⟨⟨k + 1, _, _, l2, by omega, by go_num, HF, HLN, HIN⟩, by simp [intOf]; omega⟩
        · obtain rfl : k = t.args.length := by omega
          have r0 := HS.out.res.cell 0
          have r1 := HS.out.res.cell 1
          have r2 := HS.out.res.cell 2
          have r3 := HS.out.res.cell 3
          have f0 := HS.out.res.frozen 0
          have f1 := HS.out.res.frozen 1
          have f2 := HS.out.res.frozen 2
          have f3 := HS.out.res.frozen 3
          have rl := HS.out.res.lt
          simp at r0 r1 r2 r3
          rw [hr.out]
          go_wp2_with fail
          have hfin : KeptQ gm w ((((wr.setCell ⟨w.heap.size + 1, 0, none⟩ (.int .i64 t.kind)).setCell ⟨w.heap.size + 1, 1, none⟩ (.int .i64 t.n)).setCell ⟨w.heap.size + 1, 2, none⟩ (.string t.name)).setCell ⟨w.heap.size + 1, 3, none⟩ (.slice Av rs.length cv)) := (((HS.out.kept.set (by simp) _).set (by simp) _).set (by simp) _).set (by simp) _
          have hmap := HS.out.map
          have hl1 := HL1.out
          rw [List.take_length] at hmap hl1
          have hll : rs.length = (apT.go (posI) t.args l).1.length := by rw [← hmap, List.length_map]
          refine bodyPost_ret (v := .agg #[.int .i64 t.kind, .int .i64 t.n, .string t.name, .slice Av rs.length cv]) (by simp only [results, Tryz.results76]; go_simp) rfl ⟨⟨Av, cv, ?_, ?_⟩, ?_, hfin⟩
          · rw [HP.out]
            show _ = Ending.returned (.agg #[.int .i64 t.kind, .int .i64 t.n, .string t.name, .slice Av (apT.go (posI) t.args l).1.length cv])
            rw [hll]
          · rw [HP.out]
            show ArgsAt _ _ Av (apT.go (posI) t.args l).1
            rw [← hmap]
            have h3 := HS.out.row.stay (w' := ((((wr.setCell ⟨w.heap.size + 1, 0, none⟩ (.int .i64 t.kind)).setCell ⟨w.heap.size + 1, 1, none⟩ (.int .i64 t.n)).setCell ⟨w.heap.size + 1, 2, none⟩ (.string t.name)).setCell ⟨w.heap.size + 1, 3, none⟩ (.slice Av rs.length cv))) (fun b hb _ => by repeat rw [heap_setCell_other _ _ _ _ (by simp; omega)]) (by simp)
            exact (h3.read (by omega)).keep (fun _ _ => rfl) (fun b hb => ⟨by have := hb.1; omega, hb.2⟩)
          · first
              | trivial
              | (rw [HP.out]
                 show IK pm gm (apT.go (posI) t.args l).2 _
                 rw [hl1]
                 exact HIr.out.stay (by repeat rw [heap_setCell_other _ _ _ _ (by simp; omega)]) (by repeat rw [heap_setCell_other _ _ _ _ (by simp; omega)]))
    · have HP := Lib.hid (apT_var (F := posI) hk l)
      have hka : t.kind = 0 := by simpa using hk
      have hta : t.args = [] ∧ t.name = { data := #[] } := by
        have h3 := HOK.out
        rw [okT_eq] at h3
        simp only [Bool.and_eq_true] at h3
        have h4 := h3.1
        unfold nodeB at h4
        rw [if_pos hk] at h4
        simp at h4
        exact ⟨h4.2, bytes_inj (by simpa using h4.1.2)⟩
      have HTA := Lib.hid hta
      have HKA := Lib.hid hka
      clear hka hta
      have HIW := Lib.hid (show IK pm gm l W from HI.out.stay (HB.out.block _ hgm) (HB.out.block _ hpm))
      go_wp2_with fail
      refine (canon61_any pm gm t l A c W HIW.out.1 HIW.out.2 HKA.out (by omega)).mono ?_
      rintro e w3 ⟨⟨A3, c3, rfl⟩, hI3i, hk3⟩
      have hI3 : IK pm gm (vars1 t l) w3 := ⟨HIW.out.1, hI3i⟩
      have HI3 := Lib.hid hI3
      have HK3 := Lib.hid ((KeptQ.of (q := gm) HB.out).trans hk3)
      have hr3 : Blk w3 r 24 #[.int .i64 0, .int .i64 0, .string { data := #[] }, .slice none 0 0] := (hk3.block r HK1.out.lt (by have := hr.out; omega)).trans HK1.out
      have HR3 := Lib.hid hr3
      have r0 := hr3.cell 0
      have r1 := hr3.cell 1
      have r2 := hr3.cell 2
      have r3 := hr3.cell 3
      have f0 := hr3.frozen 0
      have f1 := hr3.frozen 1
      have f2 := hr3.frozen 2
      have f3 := hr3.frozen 3
      have rl := hr3.lt
      simp at r0 r1 r2 r3
      have hrw : w.heap.size ≤ r := by rw [hr.out]; omega
      clear hI3 hk3 hr3
      go_wp2_with fail
      have hfin : KeptQ gm w ((((w3.setCell ⟨r, 0, none⟩ (.int .i64 0)).setCell ⟨r, 1, none⟩ (.int .i64 (posI (vars1 t l) t.n))).setCell ⟨r, 2, none⟩ (.string { data := #[] })).setCell ⟨r, 3, none⟩ (.slice A3 0 c3)) := (((HK3.out.set hrw _).set hrw _).set hrw _).set hrw _
      refine bodyPost_ret (v := .agg #[.int .i64 0, .int .i64 (posI (vars1 t l) t.n), .string { data := #[] }, .slice A3 0 c3]) (by simp only [results, Tryz.results76]; go_simp) rfl ⟨⟨A3, c3, ?_, ?_⟩, ?_, hfin⟩
      · rw [HP.out]
        rfl
      · rw [HP.out]
        exact .nil _
      · first
          | trivial
          | (rw [HP.out]
             show IK pm gm (vars1 t l) _
             exact HI3.out.stay (by repeat rw [heap_setCell_other _ _ _ _ (by simp; omega)]) (by repeat rw [heap_setCell_other _ _ _ _ (by simp; omega)]))
end Go.Proofs.YtcagaaacfcpoeaaGreat
