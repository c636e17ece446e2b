/-
  Walk: build of the index package.
-/
import Derived.Test.YtpkpdjekoghkcaaBd
import Derived.Test.YtpkpdjekoghkcaaRegN
import Derived.Test.YtpkpdjekoghkcaaLs
import Derived.Deep.AppendLies
import Derived.RegionTactic
import Derived.ChangeAlike
namespace Go.Proofs.Ytpkpdjekoghkcaa
open Go.RowKit

set_option maxRecDepth 100000 in
set_option maxHeartbeats 2000000 in
theorem build_any (A : Option Addr) (n c : Nat) (ks : List K) (w : World) (hn : n ≤ 1048576) (ha : KeysAt w w.heap.size A n ks) :
    Calls Try.prog 34 #[.slice A n c] w fun e w' => (∃ v, e = .returned v ∧ IxAt w' w'.heap.size v ⟨listTo ks zeroK n, (nubTo ks n).map fun x => (x, listTo ks x n), restTo ks n⟩) ∧ Below w.heap.size w w' := by
  obtain ⟨i0, hi, hz0, hz1, hz2⟩ := info_parts info3
  obtain ⟨i1, hi1, hy0, hy1, hy2⟩ := info_parts info62
  have hmm := @run_makeMap Try.prog
  go_enter Try.func34, Try.ntmps34
  go_wp2_with fail
  go_loopw [16] (fun i wr => ∃ j vR, j ≤ n ∧ i = .int .i64 ((j : Nat) : Int) ∧ B1 w ks j (w.heap.size + 1) (w.heap.size + 2) vR wr) (fun i _ => n - (intOf i).toNat)
  case atStart => exact ⟨0, _, by omega, rfl, B1.init w ks⟩
  case round =>
    obtain ⟨j, vR, hj, rfl, st⟩ := hrel
    by_cases hlt : j < n
    · obtain ⟨b, off, x, rfl, hB, hx, hx4⟩ := (ha.below st.below).at hlt
      obtain ⟨h1, h2, h3, h4⟩ := hx4.four
      have zb : b < wr.heap.size := by have := st.below.size; omega
      have HX := Lib.hid hx
      have HA := Lib.hid ha
      have HS := Lib.hid st
      clear hx ha hx4 st
      cases ha' : (nubTo ks j).any (K.eqv x ·)
      · have hlk : ∀ o, (Instr.lookup 72 (.map (some (w.heap.size + 2))) (.agg #[.int .i64 x.kind, .int .i64 x.n, .string x.name, .int .i64 x.ar]) true).run Try.prog (wr.alloc o) = .ok (.tuple #[.int .i64 0, .bool false]) (wr.alloc o) := fun o => by
          have h := run_look (HS.out.next (bAlloc wr o)).mp x
          rw [find_none ha'] at h
          exact h
        cases h0 : x.kind == 0
        · have h0' : (x.kind != 0) = true := by simpa using h0
          obtain ⟨w2, hu, hm2, hg2, hs2⟩ := run_update (HS.out.next (bAlloc wr (.cells #[.int .i64 x.kind, .int .i64 x.n, .string x.name, .int .i64 x.ar] 35))).mp x (find_none ha')
          obtain ⟨AR, cR, eR⟩ := own_form HS.out.rows
          have bx1 := HS.out.box
          rw [eR] at bx1
          have bx2 := (bx1.alloc (.cells #[.int .i64 x.kind, .int .i64 x.n, .string x.name, .int .i64 x.ar] 35))
          have bx3 := bx2.grown hg2 (fun e => by injection e with e; omega)
          have kb3 := (Blk.new wr 35 #[.int .i64 x.kind, .int .i64 x.n, .string x.name, .int .i64 x.ar]).grown hg2 (fun e => by injection e with e; have := HS.out.mp.lt; omega)
          have c1 : wr.cell? ⟨w.heap.size + 1, 1, none⟩ = some (.slice AR (nubTo ks j).length cR) := by rw [bx1.cell]; rfl
          have c3 : w2.cell? ⟨w.heap.size + 1, 1, none⟩ = some (.slice AR (nubTo ks j).length cR) := by rw [bx3.cell]; rfl
          have k0 : w2.cell? ⟨wr.heap.size, 0, none⟩ = some (.int .i64 x.kind) := by rw [kb3.cell]; rfl
          have k1 : w2.cell? ⟨wr.heap.size, 1, none⟩ = some (.int .i64 x.n) := by rw [kb3.cell]; rfl
          have k2 : w2.cell? ⟨wr.heap.size, 2, none⟩ = some (.string x.name) := by rw [kb3.cell]; rfl
          have k3 : w2.cell? ⟨wr.heap.size, 3, none⟩ = some (.int .i64 x.ar) := by rw [kb3.cell]; rfl
          have z1 : w.heap.size + 1 < wr.heap.size := HS.out.box.lt
          have hnl := nubTo_len ks j
          have hws2 : w.heap.size ≤ w2.heap.size := by have := hg2.size; simp at this; omega
          have hown2 : w2.ownsRow w.heap.size 62 5 vR (nubTo ks j).length (rowCs (fun _ => .slice none 0 0) (nubTo ks j) 2) := own_notmap (HS.out.next (bAlloc wr _)).rows (HS.out.next (bAlloc wr _)).mp hg2
          rw [eR] at hown2
          have HO2 := Lib.hid hown2
          have hgm2 : wr.grownBy w2 (some (w.heap.size + 2)) := (World.grownBy_alloc wr _ _).trans hg2
          have HG2 := Lib.hid hgm2
          clear hown2 hgm2
          have HH := Lib.hid (And.intro hm2 (And.intro hg2 hs2))
          have HE := Lib.hid eR
          have HA' := Lib.hid ha'
          have H0 := Lib.hid h0
          have HBX := Lib.hid bx3
          clear bx1 bx2 bx3 kb3 hm2 hg2 hs2 eR ha' h0
          go_wp2_with (at_builtin; refine wpList_append_lies _ rfl (.tmp 39) (.tmp 42) 24 rfl w.heap.size 62 i1 _ 5 64 Try.underlying24 hi1 hy0 hy1 hy2 rfl (by decide) _ (nubTo ks j).length (rowCs (fun _ => .slice none 0 0) (nubTo ks j) 2) rfl (HO2.out.alloc _) ⟨w2.heap.size, 0, none⟩ 1 1 [.int .i64 x.kind, .int .i64 x.n, .string x.name, .int .i64 x.ar, .slice none 0 0] rfl rfl ?c1 ?c2 (by decide) ?c3 ?c4 ?c5 (w2.heap.size + 1) ?c6 ?_)
          case c1 => exact World.news_of_block (cs := #[.int .i64 x.kind, .int .i64 x.n, .string x.name, .int .i64 x.ar, .slice none 0 0]) (t := 62) (fr := (0, 0)) (heap_alloc_new w2 _)
          case c2 => simp [Value.oneCell']
          case c3 => unfold maxLen; omega
          case c4 => omega
          case c5 => simp; omega
          case c6 => simp
          intro gg cap w3 hown3 hg3 _ _
          have st3 := HS.out.app HX.out H0.out HA'.out HH.out.1 (HG2.out) hown3 (by rw [HE.out]; exact hg3)
          have bx4 := (HBX.out.alloc (.cells #[.int .i64 x.kind, .int .i64 x.n, .string x.name, .int .i64 x.ar, .slice none 0 0] 62)).grown hg3 (own_ne (w := w2.alloc (.cells #[.int .i64 x.kind, .int .i64 x.n, .string x.name, .int .i64 x.ar, .slice none 0 0] 62)) (HO2.out.alloc _) (HBX.out.alloc _) (by decide))
          have q3 : w3.cell? ⟨w.heap.size + 1, 1, none⟩ = some (.slice AR (nubTo ks j).length cR) := by rw [bx4.cell]; rfl
          have q4 := bx4.frozen 1
          have HS3 := Lib.hid st3
          clear st3 hown3 hg3 bx4 hu hlk
          go_wp2_with fail
          exact ⟨⟨j + 1, _, by omega, by go_num, HS3.out⟩, by simp [intOf]; omega⟩
        · have h0' : (x.kind != 0) = false := by simpa using h0
          have HF := Lib.hid ((HS.out.next (bAlloc wr (.cells #[.int .i64 x.kind, .int .i64 x.n, .string x.name, .int .i64 x.ar] 35))).skipVar HX.out h0)
          clear ha' h0
          go_wp2_with fail
          exact ⟨⟨j + 1, _, by omega, by go_num, HF.out⟩, by simp [intOf]; omega⟩
      · obtain ⟨r, hr, _⟩ := find_some ha'
        have hlk : ∀ o, (Instr.lookup 72 (.map (some (w.heap.size + 2))) (.agg #[.int .i64 x.kind, .int .i64 x.n, .string x.name, .int .i64 x.ar]) true).run Try.prog (wr.alloc o) = .ok (.tuple #[.int .i64 (r : Int), .bool true]) (wr.alloc o) := fun o => by
          have h := run_look (HS.out.next (bAlloc wr o)).mp x
          rw [hr] at h
          exact h
        have HF := Lib.hid ((HS.out.next (bAlloc wr (.cells #[.int .i64 x.kind, .int .i64 x.n, .string x.name, .int .i64 x.ar] 35))).skipOld HX.out ha')
        clear ha' hr
        go_wp2_with fail
        exact ⟨⟨j + 1, _, by omega, by go_num, HF.out⟩, by simp [intOf]; omega⟩
    · have hjn : j = n := by omega
      subst hjn
      have sd := st.done
      clear hlt
      go_wp2_with fail
      go_loopw [48] (fun i wr => ∃ p vs ls, p ≤ j ∧ i = .int .i64 ((p : Nat) : Int) ∧ Bd w (nubTo ks j) (w.heap.size + 1) (w.heap.size + 2) vs ls vR wr ∧ LsOk ks (nubTo ks j) p ls) (fun i _ => j - (intOf i).toNat)
      case atStart => exact ⟨0, _, _, by omega, rfl, sd, LsOk.zero⟩
      case round =>
        clear sd st
        obtain ⟨p, vs, ls, hp, rfl, sd, hls⟩ := hrel
        by_cases hlt : p < j
        · obtain ⟨b, off, x, rfl, hB, hx, hx4⟩ := (ha.below sd.below).at hlt
          obtain ⟨h1, h2, h3, h4⟩ := hx4.four
          have zb : b < wr.heap.size := by have := sd.below.size; omega
          obtain ⟨A0, c0, e0⟩ := own_form (sd.fam.own 0 (by omega))
          have hown := sd.fam.own 0 (by omega)
          rw [e0] at hown
          have q0 : wr.cell? ⟨w.heap.size + 1, 0, none⟩ = some (.slice A0 (ls 0).length c0) := by rw [sd.box.cell, ← e0]; rfl
          have hz : w.heap.size + 1 < wr.heap.size := sd.box.lt
          have hl0 : (ls 0).length ≤ 1048576 := by rw [hls.1, rangeTo_len]; omega
          have HX := Lib.hid hx
          have HA := Lib.hid ha
          have HS := Lib.hid sd
          have HL := Lib.hid hls
          have HE := Lib.hid e0
          have HO := Lib.hid hown
          have HX4 := Lib.hid hx4
          clear hx ha sd hls hx4 e0 hown
          go_wp2_with (at_builtin; refine wpList_append_lies _ rfl (.tmp 54) (.tmp 56) 23 rfl w.heap.size 3 i0 _ 1 8 Try.underlying23 hi hz0 hz1 hz2 rfl (by decide) _ (ls 0).length ((ls 0).map (.int .i64)) rfl ((HO.out.alloc _).alloc _) ⟨wr.heap.size + 1, 0, none⟩ 1 1 [.int .i64 (p : Int)] rfl rfl ?d1 ?d2 (by decide) ?d3 ?d4 ?d5 (wr.heap.size + 2) ?d6 ?_)
          case d1 => exact fun j u h => by have := cells_new (wr.alloc (.cells #[.int .i64 x.kind, .int .i64 x.n, .string x.name, .int .i64 x.ar] 35)) [.int .i64 (p : Int)] 3 j u h; rwa [World.size_alloc] at this
          case d2 => simp [Value.oneCell']
          case d3 => unfold maxLen; omega
          case d4 => omega
          case d5 => simp; omega
          case d6 => simp
          intro g0 cap0 w3 hown3 hg3 hat3 _
          have hboxk : Blk w3 wr.heap.size 35 #[.int .i64 x.kind, .int .i64 x.n, .string x.name, .int .i64 x.ar] := ((Blk.new wr 35 _).alloc _).grown hg3 (own_ne (w := (wr.alloc (.cells #[.int .i64 x.kind, .int .i64 x.n, .string x.name, .int .i64 x.ar] 35)).alloc (.cells #[.int .i64 (p : Int)] 3)) ((HO.out.alloc _).alloc _) ((Blk.new wr 35 _).alloc _) (by decide))
          have sd1 := (HS.out.next (bAlloc wr (.cells #[.int .i64 x.kind, .int .i64 x.n, .string x.name, .int .i64 x.ar] 35))).app0 (v' := .slice (some ⟨g0, 0, none⟩) ((ls 0).length + 1) cap0) (y := (p : Int)) (by rw [List.map_append]; exact hown3) (by rw [HE.out]; exact hg3) (by rw [HE.out]; rcases hat3 with h | h; exact .inl h.symm; exact .inr (by rw [h]; simp [Value.ownBlock]))
          have bx3 := ((HS.out.box.alloc (.cells #[.int .i64 x.kind, .int .i64 x.n, .string x.name, .int .i64 x.ar] 35)).alloc (.cells #[.int .i64 (p : Int)] 3)).grown hg3 (own_ne (w := (wr.alloc (.cells #[.int .i64 x.kind, .int .i64 x.n, .string x.name, .int .i64 x.ar] 35)).alloc (.cells #[.int .i64 (p : Int)] 3)) ((HO.out.alloc _).alloc _) ((HS.out.box.alloc _).alloc _) (by decide))
          have q3 : w3.cell? ⟨w.heap.size + 1, 0, none⟩ = some (vs 0) := by rw [bx3.cell]; rfl
          have q4 := bx3.frozen 0
          have hne : wr.heap.size ≠ w.heap.size + 1 := by omega
          have k0 : w3.cell? ⟨wr.heap.size, 0, none⟩ = some (.int .i64 x.kind) := by rw [hboxk.cell]; rfl
          have hk4 := hboxk.far (p := ⟨w.heap.size + 1, 0, none⟩) hne (.slice (some ⟨g0, 0, none⟩) ((ls 0).length + 1) cap0)
          have HS1 := Lib.hid sd1
          have HK := Lib.hid hk4
          have HB3 := Lib.hid bx3
          clear hboxk sd1 bx3 hk4 hown3 hg3 hat3
          cases h0 : x.kind == 0
          · have h0' : (x.kind != 0) = true := by simpa using h0
            have H0 := Lib.hid h0
            clear h0
            go_wp2_with fail
            obtain ⟨W, HW⟩ : ∃ W, Hid (W = w3.setCell ⟨w.heap.size + 1, 0, none⟩ (.slice (some ⟨g0, 0, none⟩) ((ls 0).length + 1) cap0)) := ⟨_, rfl⟩
            rw [← HW.out]
            have sd1 := HS1.out
            have hk4 := HK.out
            rw [← HW.out] at sd1 hk4
            clear q3 q4 k0 q0 h1 h2 h3 h4
            have hlt' : p < j := hlt
            obtain ⟨r, hr, hrx⟩ := find_some (nubTo_has HX.out H0.out hlt')
            have hrl := (List.getElem?_eq_some_iff.1 hrx).1
            obtain ⟨gR, cR, eR⟩ := own_some sd1.rows (by omega)
            have hlk : ∀ q, (Instr.lookup 72 (.map (some (w.heap.size + 2))) (.agg #[.int .i64 x.kind, .int .i64 x.n, .string x.name, .int .i64 x.ar]) false).run Try.prog (W.drewN q) = .ok (.int .i64 (r : Int)) (W.drewN q) := fun q => by
              have h := run_look1 (w := W.drewN q) (sd1.mp) x
              rw [hr] at h
              exact h
            have hown := sd1.fam.own (2 + r) (by omega)
            obtain ⟨Ar, cr, er⟩ := own_form hown
            have hll : (upd ls 0 (ls 0 ++ [(p : Int)]) (2 + r)).length ≤ 1048576 := by rw [upd_other _ _ (by omega), HL.out.2.2 r x hrx]; have := listTo_len ks x p; omega
            have hrows := sd1.rows
            rw [eR] at hrows
            have b1 : W.cell? ⟨w.heap.size + 1, 1, none⟩ = some (.slice (some ⟨gR, 0, none⟩) (nubTo ks j).length cR) := by rw [sd1.box.cell, ← eR]; rfl
            have k0 : W.cell? ⟨wr.heap.size, 0, none⟩ = some (.int .i64 x.kind) := by rw [hk4.cell]; rfl
            have k1 : W.cell? ⟨wr.heap.size, 1, none⟩ = some (.int .i64 x.n) := by rw [hk4.cell]; rfl
            have k2 : W.cell? ⟨wr.heap.size, 2, none⟩ = some (.string x.name) := by rw [hk4.cell]; rfl
            have k3 : W.cell? ⟨wr.heap.size, 3, none⟩ = some (.int .i64 x.ar) := by rw [hk4.cell]; rfl
            have p4 : W.cell? ⟨gR, r * 5 + 4, none⟩ = some (.slice Ar (upd ls 0 (ls 0 ++ [(p : Int)]) (2 + r)).length cr) := by
              rw [hrows.cellAt _ (by omega), (rowCs_at _ 2 hrx).2.2.2.2, er]
            have hRz : gR < W.heap.size := (hrows.lt gR rfl).2
            have hWz : w.heap.size + 1 < W.heap.size := sd1.box.lt
            rw [er] at hown
            have HRX := Lib.hid hrx
            have HER := Lib.hid eR
            have HEr := Lib.hid er
            have HO1 := Lib.hid hown
            have HRW := Lib.hid hrows
            have HSD := Lib.hid sd1
            clear hrx eR er hown hrows sd1 hk4 hr HS1 HK HO HS HX4
            go_quiet (fail)
            go_wp2_with (at_builtin; refine wpList_append_lies _ rfl (.tmp 72) (.tmp 74) 23 rfl w.heap.size 3 i0 _ 1 8 Try.underlying23 hi hz0 hz1 hz2 rfl (by decide) _ (upd ls 0 (ls 0 ++ [(p : Int)]) (2 + r)).length ((upd ls 0 (ls 0 ++ [(p : Int)]) (2 + r)).map (.int .i64)) rfl (World.ownsRow.alloc (w := W.drewN nq) (by exact HO1.out) _) ⟨W.heap.size, 0, none⟩ 1 1 [.int .i64 (p : Int)] rfl rfl ?e1 ?e2 (by decide) ?e3 ?e4 ?e5 (W.heap.size + 1) ?e6 ?_)
            case e1 => exact cells_new (W.drewN nq) [.int .i64 (p : Int)] 3
            case e2 => simp [Value.oneCell']
            case e3 => unfold maxLen; omega
            case e4 => omega
            case e5 => simp; omega
            case e6 => simp
            intro g5 cap5 w5 hown5 hg5 hat5 _
            have sd2 := HSD.out.next (bDrewN (Below.refl W.heap.size W) nq)
            have ho5 : w5.ownsRow w.heap.size 3 1 (.slice (some ⟨g5, 0, none⟩) ((upd ls 0 (ls 0 ++ [(p : Int)]) (2 + r)).length + 1) cap5) ((upd ls 0 (ls 0 ++ [(p : Int)]) (2 + r)).length + 1) ((upd ls 0 (ls 0 ++ [(p : Int)]) (2 + r) ++ [(p : Int)]).map (.int .i64)) := by rw [List.map_append]; exact hown5
            have hgg : ((W.drewN nq).alloc (.cells #[.int .i64 (p : Int)] 3)).grownBy w5 (upd vs 0 (.slice (some ⟨g0, 0, none⟩) ((ls 0).length + 1) cap0) (2 + r)).ownBlock := by rw [HEr.out]; exact hg5
            have hatt : (Value.slice (some ⟨g5, 0, none⟩) ((upd ls 0 (ls 0 ++ [(p : Int)]) (2 + r)).length + 1) cap5).ownBlock = (upd vs 0 (.slice (some ⟨g0, 0, none⟩) ((ls 0).length + 1) cap0) (2 + r)).ownBlock ∨ (Value.slice (some ⟨g5, 0, none⟩) ((upd ls 0 (ls 0 ++ [(p : Int)]) (2 + r)).length + 1) cap5).ownBlock = some ((W.drewN nq).alloc (.cells #[.int .i64 (p : Int)] 3)).heap.size := by
              rw [HEr.out]; rcases hat5 with h | h; exact .inl h.symm; exact .inr (by rw [h]; simp [Value.ownBlock])
            have hr5 := (sd2.grown (by omega) ho5 hgg hatt).2.2.2.2.2
            have sd3 := sd2.appList hrl HER.out ho5 hgg hatt
            rw [HER.out] at hr5
            have p5 : w5.cell? ⟨gR, r * 5 + 4, none⟩ = some (.slice Ar (upd ls 0 (ls 0 ++ [(p : Int)]) (2 + r)).length cr) := by
              rw [hr5.cellAt _ (by omega), (rowCs_at _ 2 HRX.out).2.2.2.2, HEr.out]
            have p6 := hr5.frozenAt (r * 5 + 4)
            have HS3 := Lib.hid sd3
            have HLL := Lib.hid (HL.out.row HX.out H0.out HRX.out (fun _ _ h => nubTo_kind h) (nubTo_nodup ks j))
            clear sd3 hr5 sd2 ho5 hgg hatt hown5 hg5 hat5 hlk
            go_wp2_with fail
            exact ⟨⟨p + 1, _, _, by omega, by go_num, HS3.out, HLL.out⟩, by simp [intOf]; omega⟩
          · have h0' : (x.kind != 0) = false := by simpa using h0
            have H0 := Lib.hid h0
            clear h0
            obtain ⟨A1, c1, e1⟩ := own_form (HS1.out.fam.own 1 (by omega))
            have hown := HS1.out.fam.own 1 (by omega)
            rw [e1] at hown
            have eu1 : upd ls 0 (ls 0 ++ [(p : Int)]) 1 = ls 1 := upd_other _ _ (by omega)
            have ev1 : upd vs 0 (.slice (some ⟨g0, 0, none⟩) ((ls 0).length + 1) cap0) 1 = vs 1 := upd_other _ _ (by omega)
            rw [ev1] at e1
            rw [eu1] at hown e1
            have q5 : w3.cell? ⟨w.heap.size + 1, 2, none⟩ = some (.slice A1 (ls 1).length c1) := by rw [HB3.out.cell, ← e1]; rfl
            have hl1 : (ls 1).length ≤ 1048576 := by rw [HL.out.2.1]; have := restTo_len ks p; omega
            have hw3 : w.heap.size ≤ w3.heap.size := by have := HS1.out.below.size; simpa using this
            have HO1 := Lib.hid hown
            have HE1 := Lib.hid e1
            have HU := Lib.hid (And.intro eu1 ev1)
            clear hown e1 eu1 ev1
            go_wp2_with (at_builtin; refine wpList_append_lies _ rfl (.tmp 79) (.tmp 81) 23 rfl w.heap.size 3 i0 _ 1 8 Try.underlying23 hi hz0 hz1 hz2 rfl (by decide) _ (ls 1).length ((ls 1).map (.int .i64)) rfl (HO1.out.alloc _) ⟨w3.heap.size, 0, none⟩ 1 1 [.int .i64 (p : Int)] rfl rfl ?f1 ?f2 (by decide) ?f3 ?f4 ?f5 (w3.heap.size + 1) ?f6 ?_)
            case f1 => exact fun j u h => by have := cells_new (w3.setCell ⟨w.heap.size + 1, 0, none⟩ (.slice (some ⟨g0, 0, none⟩) ((ls 0).length + 1) cap0)) [.int .i64 (p : Int)] 3 j u h; simpa using this
            case f2 => simp [Value.oneCell']
            case f3 => unfold maxLen; omega
            case f4 => omega
            case f5 => simp; omega
            case f6 => simp
            intro g6 cap6 w6 hown6 hg6 hat6 _
            have ho6 : w6.ownsRow w.heap.size 3 1 (.slice (some ⟨g6, 0, none⟩) ((ls 1).length + 1) cap6) ((upd ls 0 (ls 0 ++ [(p : Int)]) 1).length + 1) ((upd ls 0 (ls 0 ++ [(p : Int)]) 1 ++ [(p : Int)]).map (.int .i64)) := by rw [List.map_append, HU.out.1]; exact hown6
            have hgg : ((w3.setCell ⟨w.heap.size + 1, 0, none⟩ (.slice (some ⟨g0, 0, none⟩) ((ls 0).length + 1) cap0)).alloc (.cells #[.int .i64 (p : Int)] 3)).grownBy w6 (upd vs 0 (.slice (some ⟨g0, 0, none⟩) ((ls 0).length + 1) cap0) 1).ownBlock := by rw [HU.out.2, HE1.out]; exact hg6
            have hatt : (Value.slice (some ⟨g6, 0, none⟩) ((ls 1).length + 1) cap6).ownBlock = (upd vs 0 (.slice (some ⟨g0, 0, none⟩) ((ls 0).length + 1) cap0) 1).ownBlock ∨ (Value.slice (some ⟨g6, 0, none⟩) ((ls 1).length + 1) cap6).ownBlock = some ((w3.setCell ⟨w.heap.size + 1, 0, none⟩ (.slice (some ⟨g0, 0, none⟩) ((ls 0).length + 1) cap0)).alloc (.cells #[.int .i64 (p : Int)] 3)).heap.size := by
              rw [HU.out.2, HE1.out]; rcases hat6 with h | h; exact .inl h.symm; exact .inr (by rw [h]; simp [Value.ownBlock])
            have bx6 := (HS1.out.grown (by omega) ho6 hgg hatt).2.2.1
            have sd2 := HS1.out.app1 ho6 hgg hatt
            have p5 : w6.cell? ⟨w.heap.size + 1, 2, none⟩ = some (.slice A1 (ls 1).length c1) := by rw [bx6.cell, ← HE1.out, ← HU.out.2]; rfl
            have p6 := bx6.frozen 2
            have hLI := HL.out.var (nub := nubTo ks j) HX.out H0.out
            obtain ⟨AR, cR', eR⟩ := own_form sd2.rows
            have p7 : w6.cell? ⟨w.heap.size + 1, 1, none⟩ = some (.slice AR (nubTo ks j).length cR') := by rw [bx6.cell, ← eR]; rfl
            have hnl : (nubTo ks j).length ≤ 1048576 := by have := nubTo_len ks j; omega
            have HS2 := Lib.hid sd2
            have HLI := Lib.hid hLI
            have HEA := Lib.hid eR
            clear bx6 sd2 hLI hown6 hg6 hat6 ho6 hgg hatt HS1 HK HS eR
            go_wp2_with fail
            obtain ⟨wo, rfl⟩ : ∃ wo : World, wo = wr := ⟨_, rfl⟩
            obtain ⟨W6, HW6⟩ : ∃ W6, Hid (W6 = w6.setCell ⟨w.heap.size + 1, 2, none⟩ (.slice (some ⟨g6, 0, none⟩) ((ls 1).length + 1) cap6)) := ⟨_, rfl⟩
            rw [← HW6.out]
            have sd2 := HS2.out
            rw [← HW6.out] at sd2
            go_loopw [12, 87] (fun _ i wi => ∃ q vs2 ls2, q ≤ (nubTo ks j).length ∧ i = .int .i64 ((q : Nat) : Int) ∧ Bd w (nubTo ks j) (w.heap.size + 1) (w.heap.size + 2) vs2 ls2 vR wi ∧ LsIn ks (nubTo ks j) p q ls2) (fun _ i _ => (nubTo ks j).length - (intOf i).toNat)
            case atStart => exact ⟨0, _, _, by omega, rfl, sd2, HLI.out⟩
            case round =>
              clear sd2
              obtain ⟨q, vs2, ls2, hq, rfl, sd, hls2⟩ := hrel
              by_cases hqt : q < (nubTo ks j).length
              · have hrx : (nubTo ks j)[q]? = some ((nubTo ks j)[q]'hqt) := List.getElem?_eq_getElem hqt
                generalize (nubTo ks j)[q]'hqt = y at hrx
                obtain ⟨gR, cR, eR⟩ := own_some sd.rows (by omega)
                have hown := sd.fam.own (2 + q) (by omega)
                obtain ⟨Ar, cr, er⟩ := own_form hown
                have hll : (ls2 (2 + q)).length ≤ 1048576 := by rw [hls2.2.2 q y hrx, if_neg (by omega)]; have := listTo_len ks y p; omega
                have hrows := sd.rows
                rw [eR] at hrows
                have b1 : wr.cell? ⟨w.heap.size + 1, 1, none⟩ = some (.slice (some ⟨gR, 0, none⟩) (nubTo ks j).length cR) := by rw [sd.box.cell, ← eR]; rfl
                have p4 : wr.cell? ⟨gR, q * 5 + 4, none⟩ = some (.slice Ar (ls2 (2 + q)).length cr) := by
                  rw [hrows.cellAt _ (by omega), (rowCs_at _ 2 hrx).2.2.2.2, er]
                have p5' := hrows.frozenAt (q * 5 + 4)
                have hRz : gR < wr.heap.size := (hrows.lt gR rfl).2
                have hWz : w.heap.size + 1 < wr.heap.size := sd.box.lt
                have hq0 : (0 : Int) ≤ (q : Int) := Int.natCast_nonneg _
                have hq1 : (q : Int) < ((nubTo ks j).length : Int) := by omega
                have aR1 : some (w.heap.size + 1) ≠ (Value.slice Ar (ls2 (2 + q)).length cr).ownBlock := by rw [← er]; exact fun e => own_ne hown sd.box (by decide) e.symm
                have aR2 : some gR ≠ (Value.slice Ar (ls2 (2 + q)).length cr).ownBlock := by
                  rw [← er]
                  obtain ⟨cs, hcs⟩ := own_type hrows (g := gR) rfl
                  exact fun e => own_ne hown hcs (by decide) e.symm
                rw [er] at hown
                have HRX := Lib.hid hrx
                have HER := Lib.hid eR
                have HEr := Lib.hid er
                have HOw := Lib.hid hown
                have HSD := Lib.hid sd
                have HLS := Lib.hid hls2
                clear hrx eR er hown hrows sd hls2
                go_wp2_with fail
                refine wp_region_N (fun w' => w'.cell? ⟨w.heap.size + 1, 1, none⟩ = some (.slice (some ⟨gR, 0, none⟩) (nubTo ks j).length cR) ∧ w'.cell? ⟨gR, q * 5 + 4, none⟩ = some (.slice Ar (ls2 (2 + q)).length cr) ∧ w'.frozen? ⟨gR, q * 5 + 4, none⟩ = false) (fun i => decide (i ≠ 14)) (by kernel_rfl) ?_
                have hS0 : (fun w' => w'.cell? ⟨w.heap.size + 1, 1, none⟩ = some (.slice (some ⟨gR, 0, none⟩) (nubTo ks j).length cR) ∧ w'.cell? ⟨gR, q * 5 + 4, none⟩ = some (.slice Ar (ls2 (2 + q)).length cr) ∧ w'.frozen? ⟨gR, q * 5 + 4, none⟩ = false) wr.drew := ⟨b1, p4, p5'⟩
                refine wpAnyN_take (i := 0) (v := ?v1) rfl (by kernel_rfl) (by kernel_rfl) (by kernel_rfl) (by kernel_rfl) (fun _ _ _ h => h) (Or.inl ⟨by rfl, ?hy1⟩) (by assumption) ?_
                case hy1 => intro w hSw; (try dsimp only at hSw); go_simp; try with_reducible rfl
                simp only [Act.put, List.getElem_toArray, List.getElem_cons_zero, List.setIfInBounds_toArray, List.set_cons_zero, List.set_cons_succ]
                refine wpAnyN_take (i := 1) (v := ?v2) rfl (by kernel_rfl) (by kernel_rfl) (by kernel_rfl) (by kernel_rfl) (fun _ _ _ h => h) (Or.inl ⟨by rfl, ?hy2⟩) (by assumption) ?_
                case hy2 => intro w hSw; (try dsimp only at hSw); go_simp; try with_reducible rfl
                simp only [Act.put, List.getElem_toArray, List.getElem_cons_zero, List.getElem_cons_succ, List.setIfInBounds_toArray, List.set_cons_zero, List.set_cons_succ]
                refine wpAnyN_take (i := 2) (v := ?v3) rfl (by kernel_rfl) (by kernel_rfl) (by kernel_rfl) (by kernel_rfl) (fun _ _ _ h => h) (Or.inl ⟨by rfl, ?hy3⟩) (by assumption) ?_
                case hy3 => intro w hSw; (try dsimp only at hSw); go_simp; try with_reducible rfl
                simp only [Act.put, List.getElem_toArray, List.getElem_cons_zero, List.getElem_cons_succ, List.setIfInBounds_toArray, List.set_cons_zero, List.set_cons_succ]
                refine wpAnyN_take (i := 3) (v := ?v4) rfl (by kernel_rfl) (by kernel_rfl) (by kernel_rfl) (by kernel_rfl) (fun _ _ _ h => h) (Or.inl ⟨by rfl, ?hy4⟩) (by assumption) ?_
                case hy4 => intro w hSw; (try dsimp only at hSw); go_simp; try with_reducible rfl
                simp only [Act.put, List.getElem_toArray, List.getElem_cons_zero, List.getElem_cons_succ, List.setIfInBounds_toArray, List.set_cons_zero, List.set_cons_succ]
                refine wpAnyN_take (i := 4) (v := ?v5) rfl (by kernel_rfl) (by kernel_rfl) (by kernel_rfl) (by kernel_rfl) (fun _ _ _ h => h) (Or.inl ⟨by rfl, ?hy5⟩) (by assumption) ?_
                case hy5 => intro w hSw; (try dsimp only at hSw); go_simp; try with_reducible rfl
                simp only [Act.put, List.getElem_toArray, List.getElem_cons_zero, List.getElem_cons_succ, List.setIfInBounds_toArray, List.set_cons_zero, List.set_cons_succ]
                refine wpAnyN_take (i := 5) (v := ?v6) rfl (by kernel_rfl) (by kernel_rfl) (by kernel_rfl) (by kernel_rfl) (fun _ _ _ h => h) (Or.inl ⟨by rfl, ?hy6⟩) (by assumption) ?_
                case hy6 => intro w hSw; (try dsimp only at hSw); go_simp; try with_reducible rfl
                simp only [Act.put, List.getElem_toArray, List.getElem_cons_zero, List.getElem_cons_succ, List.setIfInBounds_toArray, List.set_cons_zero, List.set_cons_succ]
                refine wpAnyN_take (i := 6) (v := ?v7) rfl (by kernel_rfl) (by kernel_rfl) (by kernel_rfl) (by kernel_rfl) (fun _ _ _ h => h) (Or.inl ⟨by rfl, ?hy7⟩) (by assumption) ?_
                case hy7 => intro w hSw; (try dsimp only at hSw); go_simp; try with_reducible rfl
                simp only [Act.put, List.getElem_toArray, List.getElem_cons_zero, List.getElem_cons_succ, List.setIfInBounds_toArray, List.set_cons_zero, List.set_cons_succ]
                refine wpAnyN_take (i := 7) (v := ?v8) rfl (by kernel_rfl) (by kernel_rfl) (by kernel_rfl) (by kernel_rfl) (fun _ _ _ h => h) (Or.inl ⟨by rfl, ?hy8⟩) (by assumption) ?_
                case hy8 => intro w hSw; (try dsimp only at hSw); go_simp; try with_reducible rfl
                simp only [Act.put, List.getElem_toArray, List.getElem_cons_zero, List.getElem_cons_succ, List.setIfInBounds_toArray, List.set_cons_zero, List.set_cons_succ]
                refine wpAnyN_take (i := 8) (v := ?v9) rfl (by kernel_rfl) (by kernel_rfl) (by kernel_rfl) (by kernel_rfl) (fun _ _ _ h => h) (Or.inl ⟨by rfl, ?hy9⟩) (by assumption) ?_
                case hy9 => intro w hSw; (try dsimp only at hSw); go_simp; try with_reducible rfl
                simp only [Act.put, List.getElem_toArray, List.getElem_cons_zero, List.getElem_cons_succ, List.setIfInBounds_toArray, List.set_cons_zero, List.set_cons_succ]
                refine wpAnyN_take (i := 9) (v := ?v10) rfl (by kernel_rfl) (by kernel_rfl) (by kernel_rfl) (by kernel_rfl) (fun _ _ _ h => h) (Or.inl ⟨by rfl, ?hy10⟩) (by assumption) ?_
                case hy10 => intro w hSw; (try dsimp only at hSw); go_simp; try with_reducible rfl
                simp only [Act.put, List.getElem_toArray, List.getElem_cons_zero, List.getElem_cons_succ, List.setIfInBounds_toArray, List.set_cons_zero, List.set_cons_succ]
                refine wpAnyN_one (i := 10) (by kernel_rfl) rfl (fun K hK => ?_)
                simp only [List.getElem_toArray, List.getElem_cons_zero, List.getElem_cons_succ]
                go_simp
                have hS1 : ∀ o, (fun w' => w'.cell? ⟨w.heap.size + 1, 1, none⟩ = some (.slice (some ⟨gR, 0, none⟩) (nubTo ks j).length cR) ∧ w'.cell? ⟨gR, q * 5 + 4, none⟩ = some (.slice Ar (ls2 (2 + q)).length cr) ∧ w'.frozen? ⟨gR, q * 5 + 4, none⟩ = false) ((wr.alloc o).drew) := fun o => ⟨(World.cell?_alloc_lt _ _ _ (by simp; omega)).trans b1, (World.cell?_alloc_lt _ _ _ (by simp; omega)).trans p4, (World.frozen?_alloc_past _ _ _ (by omega)).trans p5'⟩
                refine hK _ _ (fun _ => hS1 _) ?_
                refine wpAnyN_one (i := 11) (by kernel_rfl) rfl (fun K hK => ?_)
                simp only [List.getElem_toArray, List.getElem_cons_zero, List.getElem_cons_succ]
                rw [if_pos (by rfl)]
                refine wp_append_lies _ _ _ _ rfl w.heap.size 3 i0 _ 1 8 Try.underlying23 hi hz0 hz1 hz2 rfl (by decide) _ (ls2 (2 + q)).length ((ls2 (2 + q)).map (.int .i64)) rfl (World.ownsRow.drew (HOw.out.alloc _)) ⟨wr.heap.size, 0, none⟩ 1 1 [.int .i64 (p : Int)] rfl rfl (cells_new wr [.int .i64 (p : Int)] 3) (by simp [Value.oneCell']) (by decide) (by unfold maxLen; omega) (by omega) (by simp; omega) (wr.heap.size + 1) (by simp) ?_
                intro g7 cap7 w7 hown7 hg7 hat7 _
                have hS2 : (fun w' => w'.cell? ⟨w.heap.size + 1, 1, none⟩ = some (.slice (some ⟨gR, 0, none⟩) (nubTo ks j).length cR) ∧ w'.cell? ⟨gR, q * 5 + 4, none⟩ = some (.slice Ar (ls2 (2 + q)).length cr) ∧ w'.frozen? ⟨gR, q * 5 + 4, none⟩ = false) w7 := ⟨(hg7.cell_far _ (by simp; omega) aR1).trans (hS1 _).1, (hg7.cell_far _ (by simp; omega) aR2).trans (hS1 _).2.1, (hg7.frozen_far _ (by simp; omega) aR2).trans (hS1 _).2.2⟩
                refine hK _ _ (fun _ => hS2) ?_
                simp only [Act.put, List.setIfInBounds_toArray, List.set_cons_zero, List.set_cons_succ]
                obtain ⟨s1, s2, s3⟩ := hS2
                refine wpAnyN_one (i := 12) (by kernel_rfl) rfl (fun K hK => ?_)
                simp only [List.getElem_toArray, List.getElem_cons_zero, List.getElem_cons_succ]
                go_simp
                refine hK _ _ (fun _ => ⟨s1, s2, s3⟩) ?_
                refine wpAnyN_one (i := 13) (by kernel_rfl) rfl (fun K hK => ?_)
                simp only [List.getElem_toArray, List.getElem_cons_zero, List.getElem_cons_succ]
                go_simp
                refine hK _ _ (fun _ => ⟨s1, s2, s3⟩) ?_
                refine wpAnyN_one (i := 14) (by kernel_rfl) rfl (fun K hK => ?_)
                simp only [List.getElem_toArray, List.getElem_cons_zero, List.getElem_cons_succ]
                go_simp
                refine hK _ _ (fun h => absurd h (by decide)) ?_
                refine wpAnyN_done (by kernel_rfl) ?_ _
                have sd2 := HSD.out.next (bDrewN (Below.refl wr.heap.size wr) 1)
                have ho7 : w7.ownsRow w.heap.size 3 1 (Value.slice (some ⟨g7, 0, none⟩) ((ls2 (2 + q)).length + 1) cap7) ((ls2 (2 + q)).length + 1) ((ls2 (2 + q) ++ [(p : Int)]).map (.int .i64)) := by rw [List.map_append]; exact hown7
                have hgg7 : ((wr.drewN 1).alloc (.cells #[.int .i64 (p : Int)] 3)).grownBy w7 (vs2 (2 + q)).ownBlock := by rw [HEr.out]; exact hg7
                have hatt7 : (Value.slice (some ⟨g7, 0, none⟩) ((ls2 (2 + q)).length + 1) cap7).ownBlock = (vs2 (2 + q)).ownBlock ∨ (Value.slice (some ⟨g7, 0, none⟩) ((ls2 (2 + q)).length + 1) cap7).ownBlock = some ((wr.drewN 1).alloc (.cells #[.int .i64 (p : Int)] 3)).heap.size := by
                  rw [HEr.out]; rcases hat7 with h | h; exact .inl h.symm; exact .inr (by rw [h]; simp [Value.ownBlock])
                have HS3 := Lib.hid (sd2.appList hqt HER.out ho7 hgg7 hatt7)
                have HL3 := Lib.hid (HLS.out.step HX.out H0.out hqt)
                clear sd2 ho7 hgg7 hatt7 hown7 hg7 hat7 hS0 hS1
                go_wp2_with fail
                exact ⟨⟨q + 1, _, _, by omega, by go_num, HS3.out, HL3.out⟩, by simp [intOf]; omega⟩
              · have HS3 := Lib.hid sd
                have HL3 := Lib.hid (hls2.done (by omega))
                clear sd hls2
                go_wp2_with fail
                exact ⟨⟨p + 1, _, _, by omega, by go_num, HS3.out, HL3.out⟩, by simp [intOf]; omega⟩
        · have hpj : p = j := by omega
          subst hpj
          have hnl := nubTo_len ks p
          obtain ⟨A0, d0, e0⟩ := own_form (sd.fam.own 0 (by omega))
          obtain ⟨A1, d1, e1⟩ := own_form (sd.fam.own 1 (by omega))
          obtain ⟨A2, d2, e2⟩ := own_form sd.rows
          have b0 := sd.box.cell 0
          have b1 := sd.box.cell 1
          have b2 := sd.box.cell 2
          have r0 := sd.res.cell 0
          have r1 := sd.res.cell 1
          have r2 := sd.res.cell 2
          have f0 := sd.res.frozen 0
          have f1 := sd.res.frozen 1
          have f2 := sd.res.frozen 2
          simp at b0 b1 b2 r0 r1 r2
          rw [e0] at b0
          rw [e2] at b1
          rw [e1] at b2
          have hne : w.heap.size + 1 ≠ w.heap.size := by omega
          have hzz := sd.res.lt
          have HD := Lib.hid (sd.done hls ha.1.1 hn (.slice A0 (ls 0).length d0) (.slice A2 (nubTo ks p).length d2) (.slice A1 (ls 1).length d1) rfl)
          have E0 := Lib.hid e0
          have E1 := Lib.hid e1
          have E2 := Lib.hid e2
          clear e0 e1 e2 sd hls
          go_wp2
          refine bodyPost_ret (v := .agg #[.slice A0 (ls 0).length d0, .slice A2 (nubTo ks p).length d2, .slice A1 (ls 1).length d1]) (by simp [results, Try.results34, go_sem, r0, r1, r2]) rfl ⟨⟨_, rfl, ?_⟩, HD.out.2⟩
          have h := HD.out.1
          rw [E0.out, E1.out, E2.out] at h
          exact h
end Go.Proofs.Ytpkpdjekoghkcaa
