/-
  Walk: the function of the reference that builds an index.
-/
import Derived.Test.YtpkpdjekoghkcaaWb
import Derived.Test.YtpkpdjekoghkcaaMp
import Derived.Deep.RegionHeld3
import Derived.Deep.AppendLies
import Derived.Test.YtpkpdjekoghkcaaRegN
namespace Go.Proofs.Ytpkpdjekoghkcaa
open Go.RowKit

set_option maxRecDepth 100000 in
set_option maxHeartbeats 1000000 in
theorem of_any (A : Option Addr) (n c : Nat) (ks : List K) (w : World) (hn : n ≤ 1048576) (ha : KeysAt w w.heap.size A n ks) :
    Calls Try.prog 35 #[.slice A n c] w fun e w' => (∃ v, e = .returned v ∧ IxAt w' w'.heap.size v ⟨listTo ks zeroK n, (nubTo ks n).map fun x => (x, listTo ks x n), restTo ks n⟩) ∧ Below w.heap.size w w' := by
  obtain ⟨i0, hi, hz0, hz1, hz2⟩ := info_parts info3
  obtain ⟨i1, hi1, hy0, hy1, hy2⟩ := info_parts info62
  go_enter Try.func35, Try.ntmps35
  go_wp2_with fail
  refine (list_any A n c ks zeroK _ hn ((ha.below (bAlloc _ _)).more (by simp))).mono ?_
  rintro e w1 ⟨⟨v, rfl, hv⟩, hb1⟩
  obtain ⟨A', c', rfl⟩ := own_form hv
  have HV := Lib.hid hv
  have HB1 := Lib.hid hb1
  have hz1' : w.heap.size < w1.heap.size := by have := hb1.size; simp at this; omega
  clear hv hb1
  go_wp2_with fail
  go_loopw [4, 5, 6] (fun i _ _ wr => ∃ j vs ls vR, j ≤ n ∧ i = .int .i64 ((j : Nat) : Int) ∧ OfSt w ks n j w1.heap.size vs ls vR wr) (fun i _ _ _ => n - (intOf i).toNat)
  case atStart => exact ⟨0, _, _, _, by omega, rfl, OfSt.init rfl HB1.out HV.out⟩
  case round =>
    obtain ⟨j, vs, ls, vR, hj, rfl, st⟩ := hrel
    by_cases hlt : j < n
    · obtain ⟨b, off, x, rfl, hB, hx, hx4⟩ := (ha.below st.below).at hlt
      have he := key_eql
      obtain ⟨h1, h2, h3, h4⟩ := hx4.four
      have HX := Lib.hid hx
      have HA := Lib.hid ha
      have HS := Lib.hid st
      have HXr := Lib.hid hx4
      clear hx ha hx4 st
      go_wp2_with fail
      refine (isVar_any x _).mono ?_
      rintro e w2 ⟨rfl, hb2⟩
      have st2 := HS.out.next hb2
      have z2 := hb2.size
      have zb : b < w2.heap.size := by have := HS.out.below.size; omega
      have HX4 := Lib.hid (HXr.out.below (by have := HS.out.below.size; omega : b < wr.heap.size) hb2)
      clear h1 h2 h3 h4 hb2 HS HXr
      cases h0 : x.kind == 0
      · have H0 := Lib.hid h0
        have HS2 := Lib.hid st2
        clear h0 st2
        go_wp2_with fail
        go_loopw [5, 6] (fun t k wi => ∃ (m q : Nat), m ≤ j ∧ k = .int .i64 (m : Int) ∧ t = .bool (anyTo ks x m) ∧ wi = w2.drewN q) (fun _ k _ => j - (intOf k).toNat)
        case atStart => exact ⟨0, 0, by omega, rfl, rfl, rfl⟩
        case round =>
          obtain ⟨m, q, hm, rfl, rfl, rfl⟩ := hrel
          by_cases hlt2 : m < j
          · have hmn : m < n := by omega
            have hjm : j < n := hlt
            cases ht : anyTo ks x m
            · obtain ⟨b', off', y, e1, hB', hy, hy4⟩ := (HA.out.below HS2.out.below).at hmn
              injection e1 with e1
              injection e1 with e1 e2
              subst e1
              subst e2
              obtain ⟨g1, g2, g3, g4⟩ := hy4.four
              obtain ⟨p1, p2, p3, p4⟩ := HX4.out.four
              have HY := Lib.hid hy
              clear hy hy4
              go_wp2_with fail
              go_quiet (fail)
              go_wp2_with fail
              exact ⟨⟨m + 1, _, by omega, by go_num, by rw [anyTo_next HY.out, ht]; rfl, rfl⟩, by simp [intOf]; omega⟩
            · obtain ⟨b', off', y, e1, hB', hy, hy4⟩ := (HA.out.below HS2.out.below).at hmn
              have HY := Lib.hid hy
              clear hy hy4 e1
              go_wp2_with fail
              go_quiet (fail)
              go_wp2_with fail
              exact ⟨⟨m + 1, _, by omega, by go_num, by rw [anyTo_next HY.out, ht]; rfl, rfl⟩, by simp [intOf]; omega⟩
          · have hmj : m = j := by omega
            subst hmj
            have st2 := HS2.out.next (bDrewN (Below.refl w2.heap.size w2) q)
            have hnub := anyTo_nub (ks := ks) (m := m) H0.out
            cases ht : anyTo ks x m
            · rw [ht] at hnub
              obtain ⟨AR, cR, eR⟩ := own_form st2.rows
              have r2 : w2.cell? ⟨w1.heap.size, 1, none⟩ = some (.slice AR (nubTo ks m).length cR) := by rw [HS2.out.box.cell, ← eR]; rfl
              have r3 := HS2.out.box.frozen 1
              have z2' := HS2.out.box.lt
              obtain ⟨p1, p2, p3, p4⟩ := HX4.out.four
              have HN := Lib.hid hnub
              have HER := Lib.hid eR
              have HS3 := Lib.hid st2
              have hR := HS2.out.rows
              rw [eR] at hR
              have HR := Lib.hid hR
              have aR1 : some w1.heap.size ≠ (Value.slice AR (nubTo ks m).length cR).ownBlock := fun e => own_ne hR HS2.out.box (by decide) e.symm
              have aR2 : some b ≠ (Value.slice AR (nubTo ks m).length cR).ownBlock := fun e => by have := (hR.lt b e.symm).1; omega
              have hnl := nubTo_len ks m
              clear eR hnub st2 ht hR
              go_wp2_with fail
              refine wp_region_N (fun w' => w'.cell? ⟨w1.heap.size, 1, none⟩ = some (.slice AR (nubTo ks m).length cR) ∧ w'.frozen? ⟨w1.heap.size, 1, none⟩ = false ∧ w'.cell? ⟨b, off + m * 4, none⟩ = some (.int .i64 x.kind) ∧ w'.cell? ⟨b, off + m * 4 + 1, none⟩ = some (.int .i64 x.n) ∧ w'.cell? ⟨b, off + m * 4 + 2, none⟩ = some (.string x.name) ∧ w'.cell? ⟨b, off + m * 4 + 3, none⟩ = some (.int .i64 x.ar)) (fun i => decide (i ≠ 16)) (by kernel_rfl) ?_
              have hS0 : (fun w' => w'.cell? ⟨w1.heap.size, 1, none⟩ = some (.slice AR (nubTo ks m).length cR) ∧ w'.frozen? ⟨w1.heap.size, 1, none⟩ = false ∧ w'.cell? ⟨b, off + m * 4, none⟩ = some (.int .i64 x.kind) ∧ w'.cell? ⟨b, off + m * 4 + 1, none⟩ = some (.int .i64 x.n) ∧ w'.cell? ⟨b, off + m * 4 + 2, none⟩ = some (.string x.name) ∧ w'.cell? ⟨b, off + m * 4 + 3, none⟩ = some (.int .i64 x.ar)) (w2.drewN q).drew := ⟨r2, r3, p1, p2, p3, p4⟩
              refine wpAnyN_take (i := 0) (v := ?v1) rfl (by kernel_rfl) (by kernel_rfl) (by kernel_rfl) (by kernel_rfl) (fun _ _ _ h => h) (Or.inl ⟨by rfl, ?hy1⟩) (by assumption) ?_
              case hy1 => intro w hSw; (try dsimp only at hSw); go_simp; try with_reducible rfl
              simp only [Act.put, List.getElem_toArray, List.getElem_cons_zero, List.setIfInBounds_toArray, List.set_cons_zero, List.set_cons_succ]
              refine wpAnyN_take (i := 1) (v := ?v2) rfl (by kernel_rfl) (by kernel_rfl) (by kernel_rfl) (by kernel_rfl) (fun _ _ _ h => h) (Or.inl ⟨by rfl, ?hy2⟩) (by assumption) ?_
              case hy2 => intro w hSw; (try dsimp only at hSw); go_simp; try with_reducible rfl
              simp only [Act.put, List.getElem_toArray, List.getElem_cons_zero, List.getElem_cons_succ, List.setIfInBounds_toArray, List.set_cons_zero, List.set_cons_succ]
              refine wpAnyN_take (i := 2) (v := ?v3) rfl (by kernel_rfl) (by kernel_rfl) (by kernel_rfl) (by kernel_rfl) (fun _ _ _ h => h) (Or.inl ⟨by rfl, ?hy3⟩) (by assumption) ?_
              case hy3 => intro w hSw; (try dsimp only at hSw); go_simp; try with_reducible rfl
              simp only [Act.put, List.getElem_toArray, List.getElem_cons_zero, List.getElem_cons_succ, List.setIfInBounds_toArray, List.set_cons_zero, List.set_cons_succ]
              refine wpAnyN_take (i := 3) (v := ?v4) rfl (by kernel_rfl) (by kernel_rfl) (by kernel_rfl) (by kernel_rfl) (fun _ _ _ h => h) (Or.inl ⟨by rfl, ?hy4⟩) (by assumption) ?_
              case hy4 => intro w hSw; (try dsimp only at hSw); go_simp; try with_reducible rfl
              simp only [Act.put, List.getElem_toArray, List.getElem_cons_zero, List.getElem_cons_succ, List.setIfInBounds_toArray, List.set_cons_zero, List.set_cons_succ]
              refine wpAnyN_take (i := 4) (v := ?v5) rfl (by kernel_rfl) (by kernel_rfl) (by kernel_rfl) (by kernel_rfl) (fun _ _ _ h => h) (Or.inl ⟨by rfl, ?hy5⟩) (by assumption) ?_
              case hy5 => intro w hSw; (try dsimp only at hSw); go_simp; try with_reducible rfl
              simp only [Act.put, List.getElem_toArray, List.getElem_cons_zero, List.getElem_cons_succ, List.setIfInBounds_toArray, List.set_cons_zero, List.set_cons_succ]
              refine wpAnyN_take (i := 5) (v := ?v6) rfl (by kernel_rfl) (by kernel_rfl) (by kernel_rfl) (by kernel_rfl) (fun _ _ _ h => h) (Or.inl ⟨by rfl, ?hy6⟩) (by assumption) ?_
              case hy6 => intro w hSw; (try dsimp only at hSw); go_simp; try with_reducible rfl
              simp only [Act.put, List.getElem_toArray, List.getElem_cons_zero, List.getElem_cons_succ, List.setIfInBounds_toArray, List.set_cons_zero, List.set_cons_succ]
              refine wpAnyN_take (i := 6) (v := ?v7) rfl (by kernel_rfl) (by kernel_rfl) (by kernel_rfl) (by kernel_rfl) (fun _ _ _ h => h) (Or.inl ⟨by rfl, ?hy7⟩) (by assumption) ?_
              case hy7 => intro w hSw; (try dsimp only at hSw); go_simp; try with_reducible rfl
              simp only [Act.put, List.getElem_toArray, List.getElem_cons_zero, List.getElem_cons_succ, List.setIfInBounds_toArray, List.set_cons_zero, List.set_cons_succ]
              refine wpAnyN_take (i := 7) (v := ?v8) rfl (by kernel_rfl) (by kernel_rfl) (by kernel_rfl) (by kernel_rfl) (fun _ _ _ h => h) (Or.inl ⟨by rfl, ?hy8⟩) (by assumption) ?_
              case hy8 => intro w hSw; (try dsimp only at hSw); go_simp; try with_reducible rfl
              simp only [Act.put, List.getElem_toArray, List.getElem_cons_zero, List.getElem_cons_succ, List.setIfInBounds_toArray, List.set_cons_zero, List.set_cons_succ]
              refine wpAnyN_take (i := 8) (v := ?v9) rfl (by kernel_rfl) (by kernel_rfl) (by kernel_rfl) (by kernel_rfl) (fun _ _ _ h => h) (Or.inl ⟨by rfl, ?hy9⟩) (by assumption) ?_
              case hy9 => intro w hSw; (try dsimp only at hSw); go_simp; try with_reducible rfl
              simp only [Act.put, List.getElem_toArray, List.getElem_cons_zero, List.getElem_cons_succ, List.setIfInBounds_toArray, List.set_cons_zero, List.set_cons_succ]
              refine wpAnyN_take (i := 9) (v := ?v10) rfl (by kernel_rfl) (by kernel_rfl) (by kernel_rfl) (by kernel_rfl) (fun _ _ _ h => h) (Or.inl ⟨by rfl, ?hy10⟩) (by assumption) ?_
              case hy10 => intro w hSw; (try dsimp only at hSw); go_simp; try with_reducible rfl
              simp only [Act.put, List.getElem_toArray, List.getElem_cons_zero, List.getElem_cons_succ, List.setIfInBounds_toArray, List.set_cons_zero, List.set_cons_succ]
              refine wpAnyN_take (i := 10) (v := ?v11) rfl (by kernel_rfl) (by kernel_rfl) (by kernel_rfl) (by kernel_rfl) (fun _ _ _ h => h) (Or.inl ⟨by rfl, ?hy11⟩) (by assumption) ?_
              case hy11 => intro w hSw; (try dsimp only at hSw); go_simp; try with_reducible rfl
              simp only [Act.put, List.getElem_toArray, List.getElem_cons_zero, List.getElem_cons_succ, List.setIfInBounds_toArray, List.set_cons_zero, List.set_cons_succ]
              refine wpAnyN_one (i := 11) (by kernel_rfl) rfl (fun K hK => ?_)
              simp only [List.getElem_toArray, List.getElem_cons_zero, List.getElem_cons_succ]
              go_simp
              refine (list_any _ n c ks x _ hn (by exact (HA.out.below HS2.out.below).more HS2.out.below.size)).mono ?_
              rintro e w4 ⟨⟨v, rfl, hv⟩, hb4⟩
              obtain ⟨A4, c4, rfl⟩ := own_form hv
              have hz4 : w2.heap.size ≤ w4.heap.size := by simpa using hb4.size
              have hS4 : (fun w' => w'.cell? ⟨w1.heap.size, 1, none⟩ = some (.slice AR (nubTo ks m).length cR) ∧ w'.frozen? ⟨w1.heap.size, 1, none⟩ = false ∧ w'.cell? ⟨b, off + m * 4, none⟩ = some (.int .i64 x.kind) ∧ w'.cell? ⟨b, off + m * 4 + 1, none⟩ = some (.int .i64 x.n) ∧ w'.cell? ⟨b, off + m * 4 + 2, none⟩ = some (.string x.name) ∧ w'.cell? ⟨b, off + m * 4 + 3, none⟩ = some (.int .i64 x.ar)) w4 := ⟨(hb4.cell (by simp; omega)).trans r2, (hb4.frozen (by simp; omega)).trans r3, (hb4.cell (by simp; omega)).trans p1, (hb4.cell (by simp; omega)).trans p2, (hb4.cell (by simp; omega)).trans p3, (hb4.cell (by simp; omega)).trans p4⟩
              refine hK _ _ (fun _ => hS4) ?_
              refine wpAnyN_take (i := 12) (v := ?v12) rfl (by kernel_rfl) (by kernel_rfl) (by kernel_rfl) (by kernel_rfl) (fun _ _ _ h => h) (Or.inl ⟨by rfl, ?hy12⟩) (by assumption) ?_
              case hy12 => intro w hSw; (try dsimp only at hSw); go_simp; try with_reducible rfl
              simp only [Act.put, List.getElem_toArray, List.getElem_cons_zero, List.getElem_cons_succ, List.setIfInBounds_toArray, List.set_cons_zero, List.set_cons_succ]
              refine wpAnyN_one (i := 13) (by kernel_rfl) rfl (fun K hK => ?_)
              simp only [List.getElem_toArray, List.getElem_cons_zero, List.getElem_cons_succ]
              go_simp
              have hS5 : ∀ o, (fun w' => w'.cell? ⟨w1.heap.size, 1, none⟩ = some (.slice AR (nubTo ks m).length cR) ∧ w'.frozen? ⟨w1.heap.size, 1, none⟩ = false ∧ w'.cell? ⟨b, off + m * 4, none⟩ = some (.int .i64 x.kind) ∧ w'.cell? ⟨b, off + m * 4 + 1, none⟩ = some (.int .i64 x.n) ∧ w'.cell? ⟨b, off + m * 4 + 2, none⟩ = some (.string x.name) ∧ w'.cell? ⟨b, off + m * 4 + 3, none⟩ = some (.int .i64 x.ar)) (w4.alloc o) := fun o => ⟨(World.cell?_alloc_lt _ _ _ (by simp; omega)).trans hS4.1, (World.frozen?_alloc_past _ _ _ (by omega)).trans hS4.2.1, (World.cell?_alloc_lt _ _ _ (by simp; omega)).trans hS4.2.2.1, (World.cell?_alloc_lt _ _ _ (by simp; omega)).trans hS4.2.2.2.1, (World.cell?_alloc_lt _ _ _ (by simp; omega)).trans hS4.2.2.2.2.1, (World.cell?_alloc_lt _ _ _ (by simp; omega)).trans hS4.2.2.2.2.2⟩
              refine hK _ _ (fun _ => hS5 _) ?_
              refine wpAnyN_one (i := 14) (by kernel_rfl) rfl (fun K hK => ?_)
              simp only [List.getElem_toArray, List.getElem_cons_zero, List.getElem_cons_succ]
              rw [if_pos (by rfl)]
              refine wp_append_lies _ _ _ _ rfl w.heap.size 62 i1 _ 5 64 Try.underlying24 hi1 hy0 hy1 hy2 rfl (by omega) _ (nubTo ks m).length (rowCs vs (nubTo ks m) 2) rfl ((own_below (by exact HR.out) hb4).alloc _) ⟨w4.heap.size, 0, none⟩ 1 1 [.int .i64 x.kind, .int .i64 x.n, .string x.name, .int .i64 x.ar, .slice A4 (listTo ks x n).length c4] rfl rfl (World.news_of_block (cs := #[.int .i64 x.kind, .int .i64 x.n, .string x.name, .int .i64 x.ar, .slice A4 (listTo ks x n).length c4]) (t := 62) (fr := (0, 0)) (heap_alloc_new w4 _)) (by simp [Value.oneCell']) (by omega) (by unfold maxLen; omega) (by omega) (by simp; omega) (w4.heap.size + 1) (by simp) ?_
              intro gg cap w5 hown5 hgrow hat hlt5
              have hS6 : (fun w' => w'.cell? ⟨w1.heap.size, 1, none⟩ = some (.slice AR (nubTo ks m).length cR) ∧ w'.frozen? ⟨w1.heap.size, 1, none⟩ = false ∧ w'.cell? ⟨b, off + m * 4, none⟩ = some (.int .i64 x.kind) ∧ w'.cell? ⟨b, off + m * 4 + 1, none⟩ = some (.int .i64 x.n) ∧ w'.cell? ⟨b, off + m * 4 + 2, none⟩ = some (.string x.name) ∧ w'.cell? ⟨b, off + m * 4 + 3, none⟩ = some (.int .i64 x.ar)) w5 := ⟨(hgrow.cell_far _ (by simp; omega) aR1).trans (hS5 _).1, (hgrow.frozen_far _ (by simp; omega) aR1).trans (hS5 _).2.1, (hgrow.cell_far _ (by simp; omega) aR2).trans (hS5 _).2.2.1, (hgrow.cell_far _ (by simp; omega) aR2).trans (hS5 _).2.2.2.1, (hgrow.cell_far _ (by simp; omega) aR2).trans (hS5 _).2.2.2.2.1, (hgrow.cell_far _ (by simp; omega) aR2).trans (hS5 _).2.2.2.2.2⟩
              refine hK _ _ (fun _ => hS6) ?_
              simp only [Act.put, List.setIfInBounds_toArray, List.set_cons_zero, List.set_cons_succ]
              refine wpAnyN_take (i := 15) (v := ?v13) rfl (by kernel_rfl) (by kernel_rfl) (by kernel_rfl) (by kernel_rfl) (fun _ _ _ h => h) (Or.inl ⟨by rfl, ?hy13⟩) (by assumption) ?_
              case hy13 => intro w hSw; (try dsimp only at hSw); go_simp; try with_reducible rfl
              simp only [Act.put, List.getElem_toArray, List.getElem_cons_zero, List.getElem_cons_succ, List.setIfInBounds_toArray, List.set_cons_zero, List.set_cons_succ]
              refine wpAnyN_one (i := 16) (by kernel_rfl) rfl (fun K hK => ?_)
              simp only [List.getElem_toArray, List.getElem_cons_zero, List.getElem_cons_succ]
              obtain ⟨s61, s62, _⟩ := hS6
              go_simp
              refine hK _ _ (fun h => absurd h (by decide)) ?_
              refine wpAnyN_done (by kernel_rfl) ?_ _
              have HF := Lib.hid ((HS2.out.next (bDrewN (Below.refl w2.heap.size w2) (q + 1))).appRow HX.out H0.out HN.out hb4 hv hown5 (by rw [HER.out]; exact hgrow))
              clear hS0 hS4 hS5 hv hb4 hown5 hgrow hat
              go_wp2_with fail
              exact ⟨⟨m + 1, _, _, _, by omega, by go_num, HF.out⟩, by simp [intOf]; omega⟩
            · rw [ht] at hnub
              have st3 := st2.skip HX.out H0.out hnub
              have HS3 := Lib.hid st3
              clear st3 st2 hnub
              go_wp2_with fail
              exact ⟨⟨m + 1, _, _, _, by omega, by go_num, HS3.out⟩, by simp [intOf]; omega⟩
      · have H0 := Lib.hid h0
        obtain ⟨A1, c1, e1⟩ := own_form (st2.fam.own 1 (by omega))
        have q2 : w2.cell? ⟨w1.heap.size, 2, none⟩ = some (.slice A1 (ls 1).length c1) := by rw [st2.box.cell, ← e1]; rfl
        have hown := st2.fam.own 1 (by omega)
        rw [e1] at hown
        have hz2' := st2.box.lt
        have hll : (ls 1).length ≤ 1048576 := by rw [st2.l1]; have := restTo_len ks j; omega
        have HS2 := Lib.hid st2
        have HE1 := Lib.hid e1
        have HO := Lib.hid hown
        clear h0 st2 e1 hown
        go_wp2_with (at_builtin; refine wpList_append_own_at _ rfl (.tmp 23) (.tmp 25) 23 rfl w.heap.size 3 i0 (.int .i64 0) 1 8 Try.underlying23 hi hz0 hz1 hz2 rfl (by decide) _ _ _ rfl (HO.out.alloc _) ⟨w2.heap.size, 0, none⟩ 1 1 [.int .i64 (j : Int)] rfl rfl ?c1 ?c2 ?c3 ?c4 ?c5 ?_)
        case c1 => exact cell_one_new _ _ _
        case c2 => simp [Value.oneCell']
        case c3 => unfold maxLen; omega
        case c4 => omega
        case c5 => simp; omega
        intro v' w3 hown' hg _ hat
        obtain ⟨A2, c2, e2⟩ := own_form hown'
        have st3 := HS2.out.appRest HX.out H0.out (by rw [List.map_append]; exact hown') (by rw [HE1.out]; exact hg) (by rw [HE1.out, World.size_alloc]; exact hat)
        have hbx : Blk w3 w1.heap.size 26 #[vs 0, vR, vs 1] := (HS2.out.box.alloc _).grown hg (own_ne (w := w2.alloc (.cells #[.int .i64 (j : Int)] 3)) (HO.out.alloc _) (HS2.out.box.alloc _) (by decide))
        have q3 : w3.cell? ⟨w1.heap.size, 2, none⟩ = some (vs 1) := by rw [hbx.cell]; rfl
        have q4 := hbx.frozen 2
        have HS3 := Lib.hid st3
        rw [e2]
        clear st3 hown' hg hat hbx
        go_wp2_with fail
        exact ⟨⟨j + 1, _, _, _, by omega, by go_num, by rw [← e2]; exact HS3.out⟩, by simp [intOf]; omega⟩
    · have hjn : j = n := by omega
      subst hjn
      have hnl := nubTo_len ks j
      obtain ⟨B0, d0, e0, hi0⟩ := st.fam.read (i := 0) (by omega) (by rw [st.l0]; have := listTo_len ks zeroK j; omega)
      obtain ⟨B1, d1, e1, hi1'⟩ := st.fam.read (i := 1) (by omega) (by rw [st.l1]; have := restTo_len ks j; omega)
      obtain ⟨B2, d2, e2, hi2⟩ := rows_read (f := fun x => listTo ks x j) (by omega) st.fam (Nat.le_refl _) st.l2 (fun x => by have := listTo_len ks x j; omega) st.rows
      have b0 := st.box.cell 0
      have b1 := st.box.cell 1
      have b2 := st.box.cell 2
      have r0 := st.res.cell 0
      have r1 := st.res.cell 1
      have r2 := st.res.cell 2
      have f0 := st.res.frozen 0
      have f1 := st.res.frozen 1
      have f2 := st.res.frozen 2
      simp at b0 b1 b2 r0 r1 r2
      rw [e0] at b0
      rw [e2] at b1
      rw [e1] at b2
      have hne : w1.heap.size ≠ w.heap.size := by omega
      have hzz := st.res.lt
      have HD := Lib.hid (st.done hn (.slice B0 (ls 0).length d0) (.slice B2 (nubTo ks j).length d2) (.slice B1 (ls 1).length d1) rfl)
      have E0 := Lib.hid e0
      have E1 := Lib.hid e1
      have E2 := Lib.hid e2
      clear e0 e1 e2 st hi0 hi1' hi2
      go_wp2
      refine bodyPost_ret (v := .agg #[.slice B0 (ls 0).length d0, .slice B2 (nubTo ks j).length d2, .slice B1 (ls 1).length d1]) (by simp [results, Try.results35, go_sem, r0, r1, r2]) rfl ⟨⟨_, rfl, ?_⟩, HD.out.2⟩
      have h := HD.out.1
      rw [E0.out, E1.out, E2.out] at h
      exact h
end Go.Proofs.Ytpkpdjekoghkcaa
