/-
  Walks: the balls about a term.
-/
import Derived.Test.YtcagaaacfcpoeaaGreatCg
import Derived.Deep.AppendLies
namespace Go.Proofs.YtcagaaacfcpoeaaGreat
open Go.RowKit

@[reducible] def NoRow (w : World) (v : Value) : Nat → Prop := fun b => b < w.heap.size ∧ v.ownBlock ≠ some b
/-- an owned row with the cells of terms reads as these terms -/
theorem args_own {w : World} {F : Nat → Prop} {B c : Nat} {A : Option Addr} (rs : List Tr) (ho : w.ownsRow B 24 4 (.slice A rs.length c) rs.length (tmCs rs)) (hF : ∀ b, (Value.slice A rs.length c).ownBlock = some b → F b) (hr : ∀ r ∈ rs, ArgsAt w F r.2.1 r.1.args) (hl : rs.length ≤ 281474976710656) : ArgsAt w F A (rs.map (·.1)) := by
  rcases Nat.eq_zero_or_pos rs.length with h0 | h0
  · rw [List.eq_nil_of_length_eq_zero h0]; exact .nil _
  obtain ⟨g, cap, e⟩ := own_some ho h0
  injection e with e1 e2 e3
  subst e1
  refine .row g 0 _ (fun i => ((rs[i]?).map (·.2.1)).getD none) (fun i => ((rs[i]?).map (·.2.2)).getD 0) (hF g rfl) (by simpa using hl) ?_ ?_
  · intro i x hx
    rw [List.getElem?_map] at hx
    cases hr : rs[i]? with
    | none => rw [hr] at hx; cases hx
    | some r =>
      rw [hr] at hx
      simp at hx
      subst hx
      obtain ⟨q0, q1, q2, q3⟩ := tmCs_at hr
      have hc : ∀ j u, (tmCs rs)[j]? = some u → w.cell? ⟨g, j, none⟩ = some u := fun j u hj => by
        have := ho.cells (g := g) rfl j u hj
        rw [← this]
        unfold Addr.add
        by_cases hi : j = 0 <;> simp [hi]
      simp only [Nat.zero_add, TmCells]
      exact ⟨hc _ _ q0, hc _ _ q1, hc _ _ q2, by simpa [hr] using hc _ _ q3⟩
  · intro i x hx
    rw [List.getElem?_map] at hx
    cases hr2 : rs[i]? with
    | none => rw [hr2] at hx; cases hx
    | some r =>
      rw [hr2] at hx
      simp at hx
      subst hx
      simpa [hr2] using hr r (List.mem_of_getElem? hr2)
set_option maxHeartbeats 4000000 in
theorem about74_any (t : Tm) (A : Option Addr) (c : Nat) (s x : ByteArray) (bw cw : Nat) (w : World) (ha : ArgsAt w (Old w.heap.size) A t.args) (hbw : bw < w.heap.size) (hcw : w.cell? ⟨bw, 0, none⟩ = some (.string x)) (hx : x.size < 2 ^ 62) :
    Calls Tryz.prog 95 #[t.v A c, .string s, .slice (some ⟨bw, 0, none⟩) 1 cw] w fun e w' => NewT w (aboutC t s x) e w' ∧ Below w.heap.size w w' := by
  obtain ⟨i1, hi1, hy0, hy1, hy2⟩ := info_parts info47
  have HA := Lib.hid ha
  clear ha
  obtain ⟨W, HW⟩ : ∃ X, Hid (X = (w.alloc (.cells #[.int .i64 t.kind, .int .i64 t.n, .string t.name, .slice A t.args.length c] 24)).alloc (.cells #[.int .i64 0, .int .i64 0, .string { data := #[] }, .slice none 0 0] 24)) := ⟨_, rfl⟩
  have hbW : Below w.heap.size w W := by rw [HW.out]; exact (bAlloc w _).alloc (by simp) _
  have hzW : W.heap.size = w.heap.size + 2 := by rw [HW.out]; simp
  obtain ⟨q, hq⟩ : ∃ q, Hid (q = w.heap.size) := ⟨_, rfl⟩
  obtain ⟨r, hr⟩ : ∃ q, Hid (q = w.heap.size + 1) := ⟨_, rfl⟩
  have hk0 : Blk W q 24 #[.int .i64 t.kind, .int .i64 t.n, .string t.name, .slice A t.args.length c] := by rw [HW.out, hq.out]; exact (Blk.new w _ _).alloc _
  have hk1 : Blk W r 24 #[.int .i64 0, .int .i64 0, .string { data := #[] }, .slice none 0 0] := by
    rw [HW.out, hr.out]
    have h1 := Blk.new (w.alloc (.cells #[.int .i64 t.kind, .int .i64 t.n, .string t.name, .slice A t.args.length c] 24)) 24 #[.int .i64 0, .int .i64 0, .string { data := #[] }, .slice none 0 0]
    rw [World.size_alloc] at h1
    exact h1
  have HB0 := Lib.hid hbW
  have HK0 := Lib.hid hk0
  have HR0 := Lib.hid hk1
  have hqr : q ≠ r := by rw [hq.out, hr.out]; omega
  have hqw : w.heap.size ≤ q := by rw [hq.out]; exact Nat.le_refl _
  have hrw : w.heap.size ≤ r := by rw [hr.out]; omega
  have hqW : q < W.heap.size := hk0.lt
  have hrW0 : r < W.heap.size := hk1.lt
  have e0 := hk0.cell 0
  have e1 := hk0.cell 1
  have e2 := hk0.cell 2
  have e3 := hk0.cell 3
  have el := hk0.lt
  simp at e0 e1 e2 e3
  clear hbW hk0 hk1
  go_enter Tryz.func95, Tryz.ntmps95
  go_upto_region 1 with fail
  rw [← HW.out, ← hr.out, ← hq.out]
  clear HW
  go_wp2_with fail
  refine (validP_any t A c W (ArgsNext HA.out HB0.out)).mono ?_
  rintro e w1 ⟨rfl, hb1⟩
  have HB1 := Lib.hid (bNext HB0.out hb1)
  have HR1 := Lib.hid (BlkNext HR0.out hb1)
  have HK1 := Lib.hid (BlkNext HK0.out hb1)
  have hs1 : W.heap.size ≤ w1.heap.size := hb1.size
  clear hb1 e0 e1 e2 e3 el
  cases hv : validT t
  · have HE := Lib.hid (show aboutC t s x = zeroT from if_pos (.inl hv))
    clear hv
    have r0 := HR1.out.cell 0
    have f0 := HR1.out.frozen 0
    have r1 := HR1.out.cell 1
    have f1 := HR1.out.frozen 1
    have r2 := HR1.out.cell 2
    have f2 := HR1.out.frozen 2
    have r3 := HR1.out.cell 3
    have f3 := HR1.out.frozen 3
    have rl := HR1.out.lt
    simp at r0 r1 r2 r3
    go_wp2_with fail
    refine bodyPost_ret (v := Tm.v zeroT none 0) (by simp only [results, Tryz.results95, Tm.kind, Tm.n, Tm.name, Tm.args]; go_simp; exact ⟨rfl, rfl, rfl, rfl⟩) rfl ⟨by rw [HE.out]; exact ⟨none, 0, rfl, .nil _⟩, ?_⟩
    repeat refine Below.setCell ?_ hrw _
    exact HB1.out
  · have hcw1 : w1.cell? ⟨bw, 0, none⟩ = some (.string x) := (HB1.out.cell (p := ⟨bw, 0, none⟩) hbw).trans hcw
    have lw1 : bw < w1.heap.size := Nat.lt_of_lt_of_le hbw HB1.out.size
    have hq1 : q < w1.heap.size := by omega
    have hr1 : r < w1.heap.size := by omega
    have HV := Lib.hid hv
    clear hv
    go_wp2_with fail
    go_loopw [16, 7] (fun i v wr => (i = .int .i64 0 ∧ v = .slice none 0 0 ∧ wr = w1) ∨ (i = .int .i64 1 ∧ ∃ A2 c2, Hid (Mk wr w1.heap.size v [(atomC x, A2, c2)]) ∧ ¬ 100 < x.size ∧ Hid (Below w1.heap.size w1 wr))) (fun i _ _ => 1 - (intOf i).toNat)
    case atStart => exact .inl ⟨rfl, rfl, rfl⟩
    case round =>
      rcases hrel with ⟨rfl, rfl, rfl⟩ | ⟨rfl, A2, c2, HM, hx1, HBr⟩
      · by_cases hl : 100 < x.size
        · have HE := Lib.hid (show aboutC t s x = zeroT from if_pos (.inr hl))
          have r0 := HR1.out.cell 0
          have f0 := HR1.out.frozen 0
          have r1 := HR1.out.cell 1
          have f1 := HR1.out.frozen 1
          have r2 := HR1.out.cell 2
          have f2 := HR1.out.frozen 2
          have r3 := HR1.out.cell 3
          have f3 := HR1.out.frozen 3
          have rl := HR1.out.lt
          simp at r0 r1 r2 r3
          go_wp2_with fail
          refine bodyPost_ret (v := Tm.v zeroT none 0) (by simp only [results, Tryz.results95, Tm.kind, Tm.n, Tm.name, Tm.args]; go_simp; exact ⟨rfl, rfl, rfl, rfl⟩) rfl ⟨by rw [HE.out]; exact ⟨none, 0, rfl, .nil _⟩, ?_⟩
          repeat refine Below.setCell ?_ hrw _
          exact HB1.out
        · go_wp2_with fail
          refine (atom62_any x wr).mono ?_
          rintro e w2 ⟨⟨A2, c2, rfl, ha2⟩, hb2⟩
          have HB2 := Lib.hid hb2
          have HA2 := Lib.hid ha2
          have hz2 := hb2.size
          clear ha2 hb2
          go_wp2_with (at_builtin; refine wpList_append_lies _ rfl (.tmp 24) (.tmp 27) 22 rfl wr.heap.size 24 i1 _ 4 56 Tryz.underlying22 hi1 hy0 hy1 hy2 rfl (by decide) (.slice none 0 0) 0 [] rfl (World.ownsRow_nil _ _ _ _) ⟨w2.heap.size, 0, none⟩ 1 1 [.int .i64 (atomC x).kind, .int .i64 (atomC x).n, .string (atomC x).name, .slice A2 (atomC x).args.length c2] rfl rfl ?c1 ?c2 (by decide) ?c3 ?c4 ?c5 (w2.heap.size + 1) ?c6 ?_)
          case c1 => exact World.news_of_block (cs := #[.int .i64 (atomC x).kind, .int .i64 (atomC x).n, .string (atomC x).name, .slice A2 (atomC x).args.length c2]) (t := 24) (fr := (0, 0)) (heap_alloc_new w2 _)
          case c2 => simp [Value.oneCell']
          case c3 => unfold maxLen; omega
          case c4 => omega
          case c5 => simp; omega
          case c6 => simp
          intro gg cap w3 hown3 hg3 hat3 _
          have hM := (Mk.nil wr wr.heap.size).app (w2 := w2) (w3 := w3) (r := (atomC x, A2, c2)) HB2.out HA2.out (Nat.le_refl _) hown3 hg3 (.inr (by rcases hat3 with h | h; cases h; rw [h]; simp [Value.ownBlock]))
          have HM := Lib.hid hM
          have HB3 := Lib.hid (show Below wr.heap.size wr w3 from (HB2.out.alloc hz2 _).grown hg3 (by simp; omega) (fun k e => by cases e))
          clear hM hown3 hg3 hat3
          go_wp2_with fail
          exact ⟨.inr ⟨by go_num, A2, c2, HM, hl, HB3⟩, by simp [intOf]⟩
      · obtain ⟨Av, cv, rfl⟩ := HM.out.form
        have hzr := HBr.out.size
        have HBW := Lib.hid (bNext HB1.out HBr.out)
        have HRr := Lib.hid (show Blk wr r 24 #[.int .i64 0, .int .i64 0, .string { data := #[] }, .slice none 0 0] from (HBr.out.block _ hr1).trans HR1.out)
        have HKr := Lib.hid (show Blk wr q 24 #[.int .i64 t.kind, .int .i64 t.n, .string t.name, .slice A t.args.length c] from (HBr.out.block _ hq1).trans HK1.out)
        have e0 := HKr.out.cell 0
        have e1 := HKr.out.cell 1
        have e2 := HKr.out.cell 2
        have e3 := HKr.out.cell 3
        have ef0 := HKr.out.frozen 0
        have ef1 := HKr.out.frozen 1
        have ef2 := HKr.out.frozen 2
        have ef3 := HKr.out.frozen 3
        have el := HKr.out.lt
        simp at e0 e1 e2 e3
        go_wp2_with fail
        refine (sizeP_any t A c wr (ArgsNext HA.out HBW.out)).mono ?_
        rintro e w4 ⟨rfl, hb4⟩
        have HB4 := Lib.hid hb4
        have hz4 := hb4.size
        have hrow : ∀ b, (Value.slice Av 1 cv).ownBlock = some b → w1.heap.size ≤ b ∧ b < wr.heap.size := fun b e => HM.out.own.lt b e
        have HO4 := Lib.hid (show w4.ownsRow w1.heap.size 24 4 (.slice Av 1 cv) 1 (tmCs [(atomC x, A2, c2)]) from own_stay HM.out.own (fun g hg => hb4.block g (hrow g hg).2))
        have HX4 := Lib.hid (show ArgsAt w4 (Hang w1.heap.size w4 (.slice Av 1 cv)) A2 (atomC x).args from (HM.out.sub _ (List.mem_singleton.2 rfl)).keep (fun b hb => hb4.block b hb.2.1) (fun b hb => ⟨hb.1, Nat.lt_of_lt_of_le hb.2.1 hz4, hb.2.2⟩))
        have HBW4 := Lib.hid (bNext HBW.out hb4)
        have HR4 := Lib.hid (show Blk w4 r 24 #[.int .i64 0, .int .i64 0, .string { data := #[] }, .slice none 0 0] from (hb4.block _ HRr.out.lt).trans HRr.out)
        have HK4 := Lib.hid (show Blk w4 q 24 #[.int .i64 t.kind, .int .i64 t.n, .string t.name, .slice A t.args.length c] from (hb4.block _ HKr.out.lt).trans HKr.out)
        clear e0 e1 e2 e3 ef0 ef1 ef2 ef3 el hb4
        by_cases hbig : 2000 < 4 + min (cnt t : Int) 2001
        · have HE := Lib.hid (show aboutC t s x = raiseC s [atomC x, atomC { data := #[46, 46, 46] }] by unfold aboutC; rw [if_neg (by rw [HV.out]; simp; omega), if_pos hbig])
          have hcmp : 2000 < (3 : Int) + 1 + min (cnt t : Int) 2001 := by omega
          clear hbig
          go_wp2_with fail
          refine (atom62_any _ w4).mono ?_
          rintro e w5 ⟨⟨A5, c5, rfl, ha5⟩, hb5⟩
          have hz5 := hb5.size
          generalize hYg : atomC { data := #[46, 46, 46] } = Y at *
          have HA5 := Lib.hid ha5
          have HB5 := Lib.hid hb5
          have HK5 := Lib.hid (show Blk w5 q 24 #[.int .i64 t.kind, .int .i64 t.n, .string t.name, .slice A t.args.length c] from (hb5.block _ HK4.out.lt).trans HK4.out)
          have e0 := HK5.out.cell 0
          have e1 := HK5.out.cell 1
          have e2 := HK5.out.cell 2
          have e3 := HK5.out.cell 3
          have ef0 := HK5.out.frozen 0
          have ef1 := HK5.out.frozen 1
          have ef2 := HK5.out.frozen 2
          have ef3 := HK5.out.frozen 3
          have el := HK5.out.lt
          simp at e0 e1 e2 e3
          clear ha5 hb5
          go_upto_region 13 with fail
          obtain ⟨wa, hwa⟩ : ∃ X, Hid (X = (((w5.setCell ⟨q, 0, none⟩ (.int .i64 Y.kind)).setCell ⟨q, 1, none⟩ (.int .i64 Y.n)).setCell ⟨q, 2, none⟩ (.string Y.name)).setCell ⟨q, 3, none⟩ (.slice A5 Y.args.length c5)) := ⟨_, rfl⟩
          rw [← hwa.out]
          have hfar : ∀ b, b ≠ q → wa.heap[b]? = w5.heap[b]? := fun b hb => by rw [hwa.out]; repeat rw [heap_setCell_other _ _ _ _ (by simpa using hb)]
          have hza : wa.heap.size = w5.heap.size := by rw [hwa.out]; simp
          have HKa := Lib.hid (show Blk wa q 24 #[.int .i64 (Y).kind, .int .i64 (Y).n, .string (Y).name, .slice A5 (Y).args.length c5] by
            rw [hwa.out]
            have h := (((HK5.out.set_ 0 (.int .i64 Y.kind)).set_ 1 (.int .i64 Y.n)).set_ 2 (.string Y.name)).set_ 3 (.slice A5 Y.args.length c5)
            simpa using h)
          have HOa := Lib.hid (show wa.ownsRow w1.heap.size 24 4 (.slice Av 1 cv) 1 (tmCs [(atomC x, A2, c2)]) from own_stay HO4.out (fun g hg => (hfar g (by have := (hrow g hg).1; omega)).trans (HB5.out.block g (by have := (hrow g hg).2; omega))))
          have HXa := Lib.hid (show ArgsAt wa (NoRow wa (.slice Av 1 cv)) A2 (atomC x).args from HX4.out.keep (fun b hb => (hfar b (by have := hb.1; omega)).trans (HB5.out.block b hb.2.1)) (fun b hb => ⟨by have := hb.2.1; omega, hb.2.2⟩))
          have HYa := Lib.hid (show ArgsAt wa (NoRow wa (.slice Av 1 cv)) A5 Y.args from HA5.out.keep (fun b hb => hfar b (by have := hb.1; omega)) (fun b hb => ⟨by have := hb.2; omega, fun e => by have := (hrow b e).2; have := hb.1; omega⟩))
          have HBa := Lib.hid (show Below w.heap.size w wa by
            rw [hwa.out]
            repeat refine Below.setCell ?_ hqw _
            exact bNext HBW4.out HB5.out)
          have HRa := Lib.hid (show Blk wa r 24 #[.int .i64 0, .int .i64 0, .string { data := #[] }, .slice none 0 0] from (hfar r (Ne.symm hqr)).trans ((HB5.out.block _ HR4.out.lt).trans HR4.out))
          have hsa : w1.heap.size ≤ wa.heap.size := by omega
          clear hza hfar e0 e1 e2 e3 ef0 ef1 ef2 ef3 el
          have e0 := HKa.out.cell 0
          have f0 := HKa.out.frozen 0
          have e1 := HKa.out.cell 1
          have f1 := HKa.out.frozen 1
          have e2 := HKa.out.cell 2
          have f2 := HKa.out.frozen 2
          have e3 := HKa.out.cell 3
          have f3 := HKa.out.frozen 3
          have el := HKa.out.lt
          simp at e0 e1 e2 e3
          clear f0 f1 f2 f3
          have hza4 := hsa
          have HSIZE := Lib.hid hsa
          go_wp2_with (at_builtin; refine wpList_append_lies _ rfl (.tmp 39) (.tmp 41) 22 rfl w1.heap.size 24 i1 _ 4 56 Tryz.underlying22 hi1 hy0 hy1 hy2 rfl (by decide) (.slice Av 1 cv) 1 (tmCs [(atomC x, A2, c2)]) rfl (HOa.out.alloc _) ⟨wa.heap.size, 0, none⟩ 1 1 [.int .i64 (Y).kind, .int .i64 (Y).n, .string (Y).name, .slice A5 (Y).args.length c5] rfl rfl ?d1 ?d2 (by decide) ?d3 ?d4 ?d5 (wa.heap.size + 1) ?d6 ?_)
          case d1 => exact World.news_of_block (cs := #[.int .i64 (Y).kind, .int .i64 (Y).n, .string (Y).name, .slice A5 (Y).args.length c5]) (t := 24) (fr := (0, 0)) (heap_alloc_new wa _)
          case d2 => simp [Value.oneCell']
          case d3 => unfold maxLen; omega
          case d4 => omega
          case d5 => simp; omega
          case d6 => simp
          intro gg cap wb hownb hgb hatb hltb
          have hargs : ArgsAt wb (Old wb.heap.size) (some ⟨gg, 0, none⟩) [atomC x, Y] := args_own (c := cap) [(atomC x, A2, c2), (Y, A5, c5)] hownb (fun b e => by cases e; exact hltb) (fun rr hrr => by
            have hzb := hgb.size
            simp at hzb
            have hkp : ∀ b, NoRow wa (.slice Av 1 cv) b → wb.heap[b]? = wa.heap[b]? ∧ b < wb.heap.size := fun b hb => ⟨(hgb.block b (by have := hb.1; simp; omega) (fun e => hb.2 e.symm)).trans (Below.heap_alloc _ _ b hb.1), by have := hb.1; omega⟩
            simp at hrr
            rcases hrr with rfl | rfl
            · exact HXa.out.keep (fun b hb => (hkp b hb).1) (fun b hb => (hkp b hb).2)
            · exact HYa.out.keep (fun b hb => (hkp b hb).1) (fun b hb => (hkp b hb).2)) (by simp)
          have HARGS := Lib.hid hargs
          have hzw : w.heap.size ≤ wa.heap.size := HBa.out.size
          have HBb := Lib.hid (show Below w.heap.size w wb from (HBa.out.alloc hzw _).grown hgb (by simp; omega) (fun k e => by have := (hrow k e).1; omega))
          have HRb := Lib.hid (show Blk wb r 24 #[.int .i64 0, .int .i64 0, .string { data := #[] }, .slice none 0 0] from (HRa.out.alloc _).grown hgb (fun e => by have := (hrow r e).1; omega))
          clear e0 e1 e2 e3 el hargs hownb hgb hatb hltb
          go_wp2_with fail
          refine (raise71_any s [atomC x, Y] (some ⟨gg, 0, none⟩) cap wb HARGS.out).mono ?_
          rintro e w8 ⟨⟨A8, c8, rfl, ha8⟩, hb8⟩
          have hzb := HBb.out.size
          have HA8 := Lib.hid ha8
          have HB8 := Lib.hid (bNext HBb.out hb8)
          have HR8 := Lib.hid (BlkNext HRb.out hb8)
          have hrb := HRb.out.lt
          clear ha8 hb8
          have r0 := HR8.out.cell 0
          have f0 := HR8.out.frozen 0
          have r1 := HR8.out.cell 1
          have f1 := HR8.out.frozen 1
          have r2 := HR8.out.cell 2
          have f2 := HR8.out.frozen 2
          have r3 := HR8.out.cell 3
          have f3 := HR8.out.frozen 3
          have rl := HR8.out.lt
          simp at r0 r1 r2 r3
          go_wp2_with fail
          refine bodyPost_ret (v := Tm.v (raiseC s [atomC x, Y]) A8 c8) (by simp only [results, Tryz.results95]; go_simp) rfl ⟨?_, ?_⟩
          · rw [HE.out]; refine ⟨A8, c8, rfl, ?_⟩
            refine HA8.out.keep (fun b hb => ?_) (fun b hb => ⟨by have := hb.1; omega, by have := hb.2; simpa using this⟩)
            repeat rw [heap_setCell_other _ _ _ _ (by have := hb.1; simp; omega)]
          · repeat refine Below.setCell ?_ hrw _
            exact HB8.out
        · have HE := Lib.hid (show aboutC t s x = raiseC s [atomC x, t] by unfold aboutC; rw [if_neg (by rw [HV.out]; simp; omega), if_neg hbig])
          have hcmp : ¬ 2000 < (3 : Int) + 1 + min (cnt t : Int) 2001 := by omega
          clear hbig
          go_upto_region 13 with fail
          have HXa := Lib.hid (show ArgsAt w4 (NoRow w4 (.slice Av 1 cv)) A2 (atomC x).args from HX4.out.keep (fun _ _ => rfl) (fun b hb => hb.2))
          have HYa := Lib.hid (show ArgsAt w4 (NoRow w4 (.slice Av 1 cv)) A t.args from HA.out.keep (fun b hb => HBW4.out.block b hb) (fun b hb => ⟨Nat.lt_of_lt_of_le hb HBW4.out.size, fun e => by have := (hrow b e).1; have : b < w.heap.size := hb; omega⟩))
          have hsa : w1.heap.size ≤ w4.heap.size := by omega
          have e0 := HK4.out.cell 0
          have f0 := HK4.out.frozen 0
          have e1 := HK4.out.cell 1
          have f1 := HK4.out.frozen 1
          have e2 := HK4.out.cell 2
          have f2 := HK4.out.frozen 2
          have e3 := HK4.out.cell 3
          have f3 := HK4.out.frozen 3
          have el := HK4.out.lt
          simp at e0 e1 e2 e3
          clear f0 f1 f2 f3
          have hza4 := hsa
          have HSIZE := Lib.hid hsa
          go_wp2_with (at_builtin; refine wpList_append_lies _ rfl (.tmp 39) (.tmp 41) 22 rfl w1.heap.size 24 i1 _ 4 56 Tryz.underlying22 hi1 hy0 hy1 hy2 rfl (by decide) (.slice Av 1 cv) 1 (tmCs [(atomC x, A2, c2)]) rfl (HO4.out.alloc _) ⟨w4.heap.size, 0, none⟩ 1 1 [.int .i64 (t).kind, .int .i64 (t).n, .string (t).name, .slice A (t).args.length c] rfl rfl ?d1 ?d2 (by decide) ?d3 ?d4 ?d5 (w4.heap.size + 1) ?d6 ?_)
          case d1 => exact World.news_of_block (cs := #[.int .i64 (t).kind, .int .i64 (t).n, .string (t).name, .slice A (t).args.length c]) (t := 24) (fr := (0, 0)) (heap_alloc_new w4 _)
          case d2 => simp [Value.oneCell']
          case d3 => unfold maxLen; omega
          case d4 => omega
          case d5 => simp; omega
          case d6 => simp
          intro gg cap wb hownb hgb hatb hltb
          have hargs : ArgsAt wb (Old wb.heap.size) (some ⟨gg, 0, none⟩) [atomC x, t] := args_own (c := cap) [(atomC x, A2, c2), (t, A, c)] hownb (fun b e => by cases e; exact hltb) (fun rr hrr => by
            have hzb := hgb.size
            simp at hzb
            have hkp : ∀ b, NoRow w4 (.slice Av 1 cv) b → wb.heap[b]? = w4.heap[b]? ∧ b < wb.heap.size := fun b hb => ⟨(hgb.block b (by have := hb.1; simp; omega) (fun e => hb.2 e.symm)).trans (Below.heap_alloc _ _ b hb.1), by have := hb.1; omega⟩
            simp at hrr
            rcases hrr with rfl | rfl
            · exact HXa.out.keep (fun b hb => (hkp b hb).1) (fun b hb => (hkp b hb).2)
            · exact HYa.out.keep (fun b hb => (hkp b hb).1) (fun b hb => (hkp b hb).2)) (by simp)
          have HARGS := Lib.hid hargs
          have hzw : w.heap.size ≤ w4.heap.size := HBW4.out.size
          have HBb := Lib.hid (show Below w.heap.size w wb from (HBW4.out.alloc hzw _).grown hgb (by simp; omega) (fun k e => by have := (hrow k e).1; omega))
          have HRb := Lib.hid (show Blk wb r 24 #[.int .i64 0, .int .i64 0, .string { data := #[] }, .slice none 0 0] from (HR4.out.alloc _).grown hgb (fun e => by have := (hrow r e).1; omega))
          clear e0 e1 e2 e3 el hargs hownb hgb hatb hltb
          go_wp2_with fail
          refine (raise71_any s [atomC x, t] (some ⟨gg, 0, none⟩) cap wb HARGS.out).mono ?_
          rintro e w8 ⟨⟨A8, c8, rfl, ha8⟩, hb8⟩
          have hzb := HBb.out.size
          have HA8 := Lib.hid ha8
          have HB8 := Lib.hid (bNext HBb.out hb8)
          have HR8 := Lib.hid (BlkNext HRb.out hb8)
          have hrb := HRb.out.lt
          clear ha8 hb8
          have r0 := HR8.out.cell 0
          have f0 := HR8.out.frozen 0
          have r1 := HR8.out.cell 1
          have f1 := HR8.out.frozen 1
          have r2 := HR8.out.cell 2
          have f2 := HR8.out.frozen 2
          have r3 := HR8.out.cell 3
          have f3 := HR8.out.frozen 3
          have rl := HR8.out.lt
          simp at r0 r1 r2 r3
          go_wp2_with fail
          refine bodyPost_ret (v := Tm.v (raiseC s [atomC x, t]) A8 c8) (by simp only [results, Tryz.results95]; go_simp) rfl ⟨?_, ?_⟩
          · rw [HE.out]; refine ⟨A8, c8, rfl, ?_⟩
            refine HA8.out.keep (fun b hb => ?_) (fun b hb => ⟨by have := hb.1; omega, by have := hb.2; simpa using this⟩)
            repeat rw [heap_setCell_other _ _ _ _ (by have := hb.1; simp; omega)]
          · repeat refine Below.setCell ?_ hrw _
            exact HB8.out
set_option maxHeartbeats 1000000 in
theorem type47_any (x : ByteArray) (t : Tm) (A : Option Addr) (c : Nat) (w : World) (ha : ArgsAt w (Old w.heap.size) A t.args) (hx : x.size < 2 ^ 62) : Calls Tryz.prog 63 #[.string x, t.v A c] w fun e w' => NewT w (typeC x t) e w' ∧ Below w.heap.size w w' := by
  have HA := Lib.hid ha
  clear ha
  obtain ⟨W, HW⟩ : ∃ X, Hid (X = (w.alloc (.cells #[.int .i64 t.kind, .int .i64 t.n, .string t.name, .slice A t.args.length c] 24)).alloc (.cells #[.int .i64 0, .int .i64 0, .string { data := #[] }, .slice none 0 0] 24)) := ⟨_, rfl⟩
  have hbW : Below w.heap.size w W := by rw [HW.out]; exact (bAlloc w _).alloc (by simp) _
  have hzW : W.heap.size = w.heap.size + 2 := by rw [HW.out]; simp
  obtain ⟨q, hq⟩ : ∃ q, Hid (q = w.heap.size) := ⟨_, rfl⟩
  obtain ⟨r, hr⟩ : ∃ q, Hid (q = w.heap.size + 1) := ⟨_, rfl⟩
  have hk0 : Blk W q 24 #[.int .i64 t.kind, .int .i64 t.n, .string t.name, .slice A t.args.length c] := by rw [HW.out, hq.out]; exact (Blk.new w _ _).alloc _
  have hk1 : Blk W r 24 #[.int .i64 0, .int .i64 0, .string { data := #[] }, .slice none 0 0] := by
    rw [HW.out, hr.out]
    have h1 := Blk.new (w.alloc (.cells #[.int .i64 t.kind, .int .i64 t.n, .string t.name, .slice A t.args.length c] 24)) 24 #[.int .i64 0, .int .i64 0, .string { data := #[] }, .slice none 0 0]
    rw [World.size_alloc] at h1
    exact h1
  have HB0 := Lib.hid hbW
  have HK0 := Lib.hid hk0
  have HR0 := Lib.hid hk1
  have hqr : q ≠ r := by rw [hq.out, hr.out]; omega
  have hqw : w.heap.size ≤ q := by rw [hq.out]; exact Nat.le_refl _
  have hrw : w.heap.size ≤ r := by rw [hr.out]; omega
  have hqW : q < W.heap.size := hk0.lt
  have hrW0 : r < W.heap.size := hk1.lt
  have e0 := hk0.cell 0
  have e1 := hk0.cell 1
  have e2 := hk0.cell 2
  have e3 := hk0.cell 3
  have el := hk0.lt
  simp at e0 e1 e2 e3
  clear hbW hk0 hk1
  go_enter Tryz.func63, Tryz.ntmps63
  go_upto_region 1 with fail
  rw [← HW.out, ← hr.out, ← hq.out]
  clear HW
  clear hzW
  go_wp2_with fail
  refine (about74_any t A c _ x W.heap.size 1 (W.alloc (.cells #[.string x] 9)) ((ArgsNext HA.out HB0.out).keep (fun b hb => Below.heap_alloc _ _ b hb) (fun b hb => by have : b < W.heap.size := hb; simp; omega)) (by simp) (by rw [(Blk.new W 9 #[.string x]).cell]; rfl) hx).mono ?_
  rintro e w1 ⟨⟨A1, c1, rfl, ha1⟩, hb1⟩
  have hz0 := HB0.out.size
  have hz1 := hb1.size
  simp at hz1
  have HA1 := Lib.hid (ha1.keep (w' := w1) (G := Btw W.heap.size w1.heap.size) (fun _ _ => rfl) (fun b hb => ⟨by have := hb.1; simp at this; omega, hb.2⟩))
  have HB1 := Lib.hid (bNext (bNext HB0.out (bAlloc _ _)) hb1)
  have HR1 := Lib.hid (BlkNext (HR0.out.alloc _) hb1)
  clear ha1 hb1 e0 e1 e2 e3 el
  have r0 := HR1.out.cell 0
  have f0 := HR1.out.frozen 0
  have r1 := HR1.out.cell 1
  have f1 := HR1.out.frozen 1
  have r2 := HR1.out.cell 2
  have f2 := HR1.out.frozen 2
  have r3 := HR1.out.cell 3
  have f3 := HR1.out.frozen 3
  have rl := HR1.out.lt
  simp at r0 r1 r2 r3
  go_wp2_with fail
  refine bodyPost_ret (v := Tm.v (typeC x t) A1 c1) (by simp only [results, Tryz.results63]; go_simp) rfl ⟨?_, ?_⟩
  · refine ⟨A1, c1, rfl, ?_⟩
    refine HA1.out.keep (fun b hb => ?_) (fun b hb => ⟨by have := hb.1; omega, by have := hb.2; simpa using this⟩)
    repeat rw [heap_setCell_other _ _ _ _ (by have := hb.1; simp; omega)]
  · repeat refine Below.setCell ?_ hrw _
    exact HB1.out
end Go.Proofs.YtcagaaacfcpoeaaGreat
