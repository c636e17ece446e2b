/-
  Walk: a term is copied.
-/
import Derived.Test.YtcagaaacfcpoeaaGreatTi
import Derived.Test.YtcagaaacfcpoeaaGreatRegN
import Derived.Deep.RegionHeld3
import Derived.Deep.AppendLies
namespace Go.Proofs.YtcagaaacfcpoeaaGreat
open Go.RowKit

theorem info47 : (Tryz.prog.info? 24).map (fun i => (i.zero, i.size, i.bytes)) = some (some (.agg #[.int .i64 0, .int .i64 0, .string .empty, .slice none 0 0]), 4, 56) := by kernel_rfl

set_option maxRecDepth 100000 in
set_option maxHeartbeats 2000000 in
theorem copied_any (N : Nat) : ∀ (t : Tm), cnt t < N → cnt t ≤ 4000 → ∀ (A : Option Addr) (c : Nat) (w : World), ArgsAt w (Old w.heap.size) A t.args →
    Calls Tryz.prog 88 #[t.v A c] w fun e w' => (∃ v rs, e = .returned (.agg #[.int .i64 t.kind, .int .i64 t.n, .string t.name, v]) ∧ rs.map (·.1) = t.args.map (mapT fun _ n => n) ∧ Mk w' w.heap.size v rs) ∧ Below w.heap.size w w' := by
  obtain ⟨i1, hi1, hy0, hy1, hy2⟩ := info_parts info47
  induction N with
  | zero => intro t h; omega
  | succ N ih =>
    intro t hN h4 A c w ha
    have hlen := args_le t
    have HA := Lib.hid ha
    clear ha
    go_enter Tryz.func88, Tryz.ntmps88
    go_wp2_with fail
    go_loopw [4] (fun i wr => ∃ k v rs, k ≤ t.args.length ∧ i = .int .i64 ((k : Nat) : Int) ∧ Cs w t A c (fun _ n => n) k v rs wr) (fun i _ => t.args.length - (intOf i).toNat)
    case atStart => exact ⟨0, _, _, by omega, rfl, Cs.init (by simp [*])⟩
    case round =>
      obtain ⟨k, v, rs, hk, rfl, st⟩ := hrel
      obtain ⟨Av, cv, rfl⟩ := st.row.form
      have HS := Lib.hid st
      have hz := st.below.size
      have zc := st.cb.lt
      have p3 := st.box.cell 3
      have c0 := st.cb.cell 0
      have c1 := st.cb.cell 1
      have c2 := st.cb.cell 2
      have c3 := st.cb.cell 3
      have cf := st.cb.frozen 3
      simp at p3 c0 c1 c2 c3
      have hrl : rs.length ≤ 4000 := by have := st.len; omega
      by_cases hlt : k < t.args.length
      · obtain ⟨b, off, x, A', c', rfl, hB, hx, hx4, hA'⟩ := HA.out.at hlt
        obtain ⟨q0, q1, q2, q3⟩ := hx4.below hB st.below
        have HX := Lib.hid hx
        have HC := Lib.hid (hA'.later st.below)
        have hBz : b < w.heap.size := hB
        have aR1 : some w.heap.size ≠ (Value.slice Av rs.length cv).ownBlock := fun e => by have := (st.row.own.lt _ e.symm).1; omega
        have aR2 : some (w.heap.size + 2) ≠ (Value.slice Av rs.length cv).ownBlock := fun e => by have := (st.row.own.lt _ e.symm).1; omega
        have aR3 : some b ≠ (Value.slice Av rs.length cv).ownBlock := fun e => by have := (st.row.own.lt _ e.symm).1; omega
        clear hx hx4 hA' hB st
        go_wp2_with fail
        refine wp_region_N (fun w' => w'.cell? ⟨w.heap.size + 2, 3, none⟩ = some (.slice Av rs.length cv) ∧ w'.frozen? ⟨w.heap.size + 2, 3, none⟩ = false ∧ w'.cell? ⟨w.heap.size, 3, none⟩ = some (.slice (some ⟨b, off, none⟩) t.args.length c) ∧ w'.cell? ⟨b, off + k * 4, none⟩ = some (.int .i64 x.kind) ∧ w'.cell? ⟨b, off + k * 4 + 1, none⟩ = some (.int .i64 x.n) ∧ w'.cell? ⟨b, off + k * 4 + 2, none⟩ = some (.string x.name) ∧ w'.cell? ⟨b, off + k * 4 + 3, none⟩ = some (.slice A' x.args.length c')) (fun i => decide (i ≠ 11)) (by kernel_rfl) ?_
        have hS0 : (fun w' => w'.cell? ⟨w.heap.size + 2, 3, none⟩ = some (.slice Av rs.length cv) ∧ w'.frozen? ⟨w.heap.size + 2, 3, none⟩ = false ∧ w'.cell? ⟨w.heap.size, 3, none⟩ = some (.slice (some ⟨b, off, none⟩) t.args.length c) ∧ w'.cell? ⟨b, off + k * 4, none⟩ = some (.int .i64 x.kind) ∧ w'.cell? ⟨b, off + k * 4 + 1, none⟩ = some (.int .i64 x.n) ∧ w'.cell? ⟨b, off + k * 4 + 2, none⟩ = some (.string x.name) ∧ w'.cell? ⟨b, off + k * 4 + 3, none⟩ = some (.slice A' x.args.length c')) wr.drew := ⟨c3, cf, p3, q0, q1, q2, q3⟩
        refine wpAnyN_take (i := 0) (v := ?v1) rfl (by kernel_rfl) (by kernel_rfl) (by kernel_rfl) (by kernel_rfl) (fun _ _ _ h => h) (Or.inl ⟨by rfl, ?hy1⟩) (by assumption) ?_
        case hy1 => intro w hSw; (try dsimp only at hSw); go_simp; try with_reducible rfl
        simp only [Act.put, List.getElem_toArray, List.getElem_cons_zero, List.setIfInBounds_toArray, List.set_cons_zero, List.set_cons_succ]
        refine wpAnyN_take (i := 1) (v := ?v2) rfl (by kernel_rfl) (by kernel_rfl) (by kernel_rfl) (by kernel_rfl) (fun _ _ _ h => h) (Or.inl ⟨by rfl, ?hy2⟩) (by assumption) ?_
        case hy2 => intro w hSw; (try dsimp only at hSw); go_simp; try with_reducible rfl
        simp only [Act.put, List.getElem_toArray, List.getElem_cons_zero, List.getElem_cons_succ, List.setIfInBounds_toArray, List.set_cons_zero, List.set_cons_succ]
        refine wpAnyN_take (i := 2) (v := ?v3) rfl (by kernel_rfl) (by kernel_rfl) (by kernel_rfl) (by kernel_rfl) (fun _ _ _ h => h) (Or.inl ⟨by rfl, ?hy3⟩) (by assumption) ?_
        case hy3 => intro w hSw; (try dsimp only at hSw); go_simp; try with_reducible rfl
        simp only [Act.put, List.getElem_toArray, List.getElem_cons_zero, List.getElem_cons_succ, List.setIfInBounds_toArray, List.set_cons_zero, List.set_cons_succ]
        refine wpAnyN_take (i := 3) (v := ?v4) rfl (by kernel_rfl) (by kernel_rfl) (by kernel_rfl) (by kernel_rfl) (fun _ _ _ h => h) (Or.inl ⟨by rfl, ?hy4⟩) (by assumption) ?_
        case hy4 => intro w hSw; (try dsimp only at hSw); go_simp; try with_reducible rfl
        simp only [Act.put, List.getElem_toArray, List.getElem_cons_zero, List.getElem_cons_succ, List.setIfInBounds_toArray, List.set_cons_zero, List.set_cons_succ]
        refine wpAnyN_take (i := 4) (v := ?v5) rfl (by kernel_rfl) (by kernel_rfl) (by kernel_rfl) (by kernel_rfl) (fun _ _ _ h => h) (Or.inl ⟨by rfl, ?hy5⟩) (by assumption) ?_
        case hy5 => intro w hSw; (try dsimp only at hSw); go_simp; try with_reducible rfl
        simp only [Act.put, List.getElem_toArray, List.getElem_cons_zero, List.getElem_cons_succ, List.setIfInBounds_toArray, List.set_cons_zero, List.set_cons_succ]
        refine wpAnyN_take (i := 5) (v := ?v6) rfl (by kernel_rfl) (by kernel_rfl) (by kernel_rfl) (by kernel_rfl) (fun _ _ _ h => h) (Or.inl ⟨by rfl, ?hy6⟩) (by assumption) ?_
        case hy6 => intro w hSw; (try dsimp only at hSw); go_simp; try with_reducible rfl
        simp only [Act.put, List.getElem_toArray, List.getElem_cons_zero, List.getElem_cons_succ, List.setIfInBounds_toArray, List.set_cons_zero, List.set_cons_succ]
        refine wpAnyN_take (i := 6) (v := ?v7) rfl (by kernel_rfl) (by kernel_rfl) (by kernel_rfl) (by kernel_rfl) (fun _ _ _ h => h) (Or.inl ⟨by rfl, ?hy7⟩) (by assumption) ?_
        case hy7 => intro w hSw; (try dsimp only at hSw); go_simp; try with_reducible rfl
        simp only [Act.put, List.getElem_toArray, List.getElem_cons_zero, List.getElem_cons_succ, List.setIfInBounds_toArray, List.set_cons_zero, List.set_cons_succ]
        refine wpAnyN_one (i := 7) (by kernel_rfl) rfl (fun K hK => ?_)
        simp only [List.getElem_toArray, List.getElem_cons_zero, List.getElem_cons_succ]
        go_simp
        have hxl := Tm.lt_of_at HX.out
        refine (ih x (by omega) (by omega) A' c' wr.drew ((HC.out.keep (w' := wr.drew) (fun _ _ => rfl) (fun _ h => h)).more hz)).mono ?_
        rintro e w4 ⟨⟨v4, rs4, rfl, hrs4, hm4⟩, hb4⟩
        obtain ⟨A4, c4, rfl⟩ := hm4.form
        have hl4 : rs4.length ≤ 4000 := by
          have h := congrArg List.length hrs4
          have h2 := args_le x
          simp at h
          omega
        have hz4 : wr.heap.size ≤ w4.heap.size := by simpa using hb4.size
        have hbw4 : Below wr.heap.size wr w4 := (bDrewN (Below.refl wr.heap.size wr) 1).trans hb4
        have hS4 : (fun w' => w'.cell? ⟨w.heap.size + 2, 3, none⟩ = some (.slice Av rs.length cv) ∧ w'.frozen? ⟨w.heap.size + 2, 3, none⟩ = false ∧ w'.cell? ⟨w.heap.size, 3, none⟩ = some (.slice (some ⟨b, off, none⟩) t.args.length c) ∧ w'.cell? ⟨b, off + k * 4, none⟩ = some (.int .i64 x.kind) ∧ w'.cell? ⟨b, off + k * 4 + 1, none⟩ = some (.int .i64 x.n) ∧ w'.cell? ⟨b, off + k * 4 + 2, none⟩ = some (.string x.name) ∧ w'.cell? ⟨b, off + k * 4 + 3, none⟩ = some (.slice A' x.args.length c')) w4 := ⟨(hb4.cell (by simp; omega)).trans c3, (hb4.frozen (by simp; omega)).trans cf, (hb4.cell (by simp; omega)).trans p3, (hb4.cell (by simp; omega)).trans q0, (hb4.cell (by simp; omega)).trans q1, (hb4.cell (by simp; omega)).trans q2, (hb4.cell (by simp; omega)).trans q3⟩
        refine hK _ _ (fun _ => hS4) ?_
        refine wpAnyN_one (i := 8) (by kernel_rfl) rfl (fun K hK => ?_)
        simp only [List.getElem_toArray, List.getElem_cons_zero, List.getElem_cons_succ]
        go_simp
        have hS5 : ∀ o, (fun w' => w'.cell? ⟨w.heap.size + 2, 3, none⟩ = some (.slice Av rs.length cv) ∧ w'.frozen? ⟨w.heap.size + 2, 3, none⟩ = false ∧ w'.cell? ⟨w.heap.size, 3, none⟩ = some (.slice (some ⟨b, off, none⟩) t.args.length c) ∧ w'.cell? ⟨b, off + k * 4, none⟩ = some (.int .i64 x.kind) ∧ w'.cell? ⟨b, off + k * 4 + 1, none⟩ = some (.int .i64 x.n) ∧ w'.cell? ⟨b, off + k * 4 + 2, none⟩ = some (.string x.name) ∧ w'.cell? ⟨b, off + k * 4 + 3, none⟩ = some (.slice A' x.args.length c')) (w4.alloc o) := fun o => ⟨(World.cell?_alloc_lt _ _ _ (by simp; omega)).trans hS4.1, (World.frozen?_alloc_past _ _ _ (by omega)).trans hS4.2.1, (World.cell?_alloc_lt _ _ _ (by simp; omega)).trans hS4.2.2.1, (World.cell?_alloc_lt _ _ _ (by simp; omega)).trans hS4.2.2.2.1, (World.cell?_alloc_lt _ _ _ (by simp; omega)).trans hS4.2.2.2.2.1, (World.cell?_alloc_lt _ _ _ (by simp; omega)).trans hS4.2.2.2.2.2.1, (World.cell?_alloc_lt _ _ _ (by simp; omega)).trans hS4.2.2.2.2.2.2⟩
        refine hK _ _ (fun _ => hS5 _) ?_
        refine wpAnyN_one (i := 9) (by kernel_rfl) rfl (fun K hK => ?_)
        simp only [List.getElem_toArray, List.getElem_cons_zero, List.getElem_cons_succ]
        rw [if_pos (by rfl)]
        refine wp_append_lies _ _ _ _ rfl (w.heap.size + 3) 24 i1 _ 4 56 Tryz.underlying22 hi1 hy0 hy1 hy2 rfl (by omega) _ rs.length (tmCs rs) rfl ((own_below HS.out.row.own hbw4).alloc _) ⟨w4.heap.size, 0, none⟩ 1 1 [.int .i64 x.kind, .int .i64 (x.n), .string x.name, .slice A4 rs4.length c4] rfl rfl (World.news_of_block (cs := #[.int .i64 x.kind, .int .i64 (x.n), .string x.name, .slice A4 rs4.length c4]) (t := 24) (fr := (0, 0)) (heap_alloc_new w4 _)) (by simp [Value.oneCell']) (by omega) (by unfold maxLen; omega) (by omega) (by simp; omega) (w4.heap.size + 1) (by simp) ?_
        intro gg cap w5 hown5 hgrow hat hlt5
        have hS6 : (fun w' => w'.cell? ⟨w.heap.size + 2, 3, none⟩ = some (.slice Av rs.length cv) ∧ w'.frozen? ⟨w.heap.size + 2, 3, none⟩ = false ∧ w'.cell? ⟨w.heap.size, 3, none⟩ = some (.slice (some ⟨b, off, none⟩) t.args.length c) ∧ w'.cell? ⟨b, off + k * 4, none⟩ = some (.int .i64 x.kind) ∧ w'.cell? ⟨b, off + k * 4 + 1, none⟩ = some (.int .i64 x.n) ∧ w'.cell? ⟨b, off + k * 4 + 2, none⟩ = some (.string x.name) ∧ w'.cell? ⟨b, off + k * 4 + 3, none⟩ = some (.slice A' x.args.length c')) w5 := ⟨(hgrow.cell_far _ (by simp; omega) aR2).trans (hS5 _).1, (hgrow.frozen_far _ (by simp; omega) aR2).trans (hS5 _).2.1, (hgrow.cell_far _ (by simp; omega) aR1).trans (hS5 _).2.2.1, (hgrow.cell_far _ (by simp; omega) aR3).trans (hS5 _).2.2.2.1, (hgrow.cell_far _ (by simp; omega) aR3).trans (hS5 _).2.2.2.2.1, (hgrow.cell_far _ (by simp; omega) aR3).trans (hS5 _).2.2.2.2.2.1, (hgrow.cell_far _ (by simp; omega) aR3).trans (hS5 _).2.2.2.2.2.2⟩
        refine hK _ _ (fun _ => hS6) ?_
        simp only [Act.put, List.setIfInBounds_toArray, List.set_cons_zero, List.set_cons_succ]
        refine wpAnyN_take (i := 10) (v := ?v8) rfl (by kernel_rfl) (by kernel_rfl) (by kernel_rfl) (by kernel_rfl) (fun _ _ _ h => h) (Or.inl ⟨by rfl, ?hy8⟩) (by assumption) ?_
        case hy8 => intro w hSw; (try dsimp only at hSw); go_simp; try with_reducible rfl
        simp only [Act.put, List.getElem_toArray, List.getElem_cons_zero, List.getElem_cons_succ, List.setIfInBounds_toArray, List.set_cons_zero, List.set_cons_succ]
        refine wpAnyN_one (i := 11) (by kernel_rfl) rfl (fun K hK => ?_)
        simp only [List.getElem_toArray, List.getElem_cons_zero, List.getElem_cons_succ]
        obtain ⟨s61, s62, _⟩ := hS6
        go_simp
        refine hK _ _ (fun h => absurd h (by decide)) ?_
        refine wpAnyN_done (by kernel_rfl) ?_ _
        have HF := Lib.hid (HS.out.next (w2 := w4) HX.out hbw4 (by exact hm4) hrs4 (by omega) (by exact hown5) (by exact hgrow) (by exact hat.elim (fun e => .inl e.symm) (fun e => .inr (by rw [World.size_alloc, e]; rfl))))
        clear hS0 hS4 hS5 hm4 hb4 hbw4 hown5 hgrow hat s61 s62
        go_wp2_with fail
        exact ⟨⟨k + 1, _, _, by omega, by go_num, HF.out⟩, by simp [intOf]; omega⟩
      · have r0 := st.res.cell 0
        have r1 := st.res.cell 1
        have r2 := st.res.cell 2
        have r3 := st.res.cell 3
        have f0 := st.res.frozen 0
        have f1 := st.res.frozen 1
        have f2 := st.res.frozen 2
        have f3 := st.res.frozen 3
        have zr := st.res.lt
        simp at r0 r1 r2 r3
        clear st
        go_wp2
        refine bodyPost_ret (v := .agg #[.int .i64 t.kind, .int .i64 (t.n), .string t.name, .slice Av rs.length cv]) (by simp [results, Tryz.results88, go_sem, r0, r1, r2, r3]) rfl ⟨⟨_, rs, rfl, ?_, ?_⟩, ?_⟩
        · rw [HS.out.map, List.take_of_length_le (by omega)]
        · refine (HS.out.row.stay (fun b hb3 _ => ?_) ?_).base (by omega)
          · repeat rw [heap_setCell_other _ _ _ _ (by simp; omega)]
          · simp
        · repeat refine Below.setCell ?_ (by simp) _
          exact HS.out.below
end Go.Proofs.YtcagaaacfcpoeaaGreat
