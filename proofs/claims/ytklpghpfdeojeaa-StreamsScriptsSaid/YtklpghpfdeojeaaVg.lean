/-
  Walk: New of the reference.
-/
import Derived.Test.YtklpghpfdeojeaaUl
import Derived.Test.YtklpghpfdeojeaaSg
namespace Go.Proofs.Ytklpghpfdeojeaa
open Go.RowKit
set_option maxHeartbeats 8000000 in
theorem New_any (A : Option Addr) (n c : Nat) (l : List F) (w : World) (ha : FilesAt w w.heap.size A n l) (hcap : CapOk A n c) (hn : n ≤ 4398046510976) :
    Calls Try.prog 11 #[.slice A n c] w (RetS (newV l) w) := by
  obtain ⟨i0, hi0, hz0', hy0, hb0⟩ := info_parts info35
  obtain rfl : n = l.length := ha.1.1.symm
  have HA := Lib.hid ha
  have HC := Lib.hid hcap
  clear ha hcap
  have k0 : Blk (w.alloc (.cells #[.slice none 0 0, .slice none 0 0, .int .i64 0, .int .i64 0, .int .i64 0] 25)) w.heap.size 25 #[.slice none 0 0, .slice none 0 0, .int .i64 0, .int .i64 0, .int .i64 0] := Blk.new _ _ _
  have HBW := Lib.hid (bAlloc w (.cells #[.slice none 0 0, .slice none 0 0, .int .i64 0, .int .i64 0, .int .i64 0] 25))
  go_enter Try.func11, Try.ntmps11
  go_wp2_with fail
  refine (validFiles_any A l.length c l _ (HA.out.next HBW.out)).mono ?_
  rintro e w1 ⟨rfl, hb1⟩
  have HB1 := Lib.hid (bNext HBW.out hb1)
  have k01 := k0.next hb1
  have hz0 := k01.lt
  clear k0 hb1
  have z0 := k01.cell 0
  have z1 := k01.cell 1
  have z2 := k01.cell 2
  have z3 := k01.cell 3
  have z4 := k01.cell 4
  simp at z0 z1 z2 z3 z4
  have g0 := k01.frozen 0
  have g1 := k01.frozen 1
  have g2 := k01.frozen 2
  have g3 := k01.frozen 3
  have g4 := k01.frozen 4
  cases hv : orderedB l
  · have HR := Lib.hid (newV_bad hv)
    go_wp2_with fail
    refine bodyPost_ret (v := .tuple #[zV, .int .i64 1]) (by simp only [results, Try.results11]; go_simp) rfl (RetS.bad HR.out ?_)
    repeat (first | (with_reducible exact HB1.out) | ((with_reducible refine Below.setCell ?_ ?_ _); rotate_left; focus (first | (simp; done) | (simp; omega))) | ((with_reducible refine Below.alloc ?_ ?_ _); rotate_left; focus (first | (simp; done) | (simp; omega))))
  · have HRG := Lib.hid (newV_go hv)
    clear hv
    have hnil : (w1.alloc (.cells #[.slice none 0 0, .slice none 0 0, .int .i64 0, .int .i64 0, .int .i64 0] 25)).ownsRow (w.heap.size + 1) 35 2 (.slice none 0 0) 0 [] := ⟨rfl, .inl ⟨rfl, rfl⟩⟩
    have HM := Lib.hid hnil
    clear hnil
    go_wp2_with (at_builtin; refine wpList_append_src rfl (.tmp 10) (.tmp 11) 22 rfl (w.heap.size + 1) 35 i0 _ 2 32 Try.underlying22 hi0 hz0' hy0 hb0 rfl (by decide) _ 0 [] rfl HM.out A l.length c (fCs l) rfl HC.out ?c1 ?c2 ?c3 ?c4 ?c5 ?c6 ?_)
    case c1 => rw [fCs_len]
    case c2 => exact files_cells (HA.out.below (HB1.out.alloc (by omega) _))
    case c3 => exact f_one _
    case c4 => unfold maxLen; omega
    case c5 => omega
    case c6 => simp; omega
    intro v1 w2 ho1 hg1 hat1
    have ho1 : w2.ownsRow (w.heap.size + 1) 35 2 v1 l.length (fCs l) := by simpa using ho1
    obtain ⟨D1, e1, rfl, -⟩ := own_form ho1
    have hz2 := hg1.size
    simp at hz2
    have k02 := (k01.alloc (.cells #[.slice none 0 0, .slice none 0 0, .int .i64 0, .int .i64 0, .int .i64 0] 25)).grown hg1 (by simp [Value.ownBlock])
    have kb2 := (Blk.new w1 25 #[.slice none 0 0, .slice none 0 0, .int .i64 0, .int .i64 0, .int .i64 0]).grown hg1 (by simp [Value.ownBlock])
    have HB2 := Lib.hid (show Below w.heap.size w w2 from (HB1.out.alloc (by omega) _).grown hg1 (by simp; omega) (fun k hk => by simp [Value.ownBlock] at hk))
    have hnD : (Value.slice D1 l.length e1).ownBlock ≠ some w1.heap.size := fun h => by
      rcases hat1 with h1 | h1
      · rw [h] at h1; simp [Value.ownBlock] at h1
      · rw [h] at h1; simp at h1
    have hns : NewS (w2.setCell ⟨w1.heap.size, 0, none⟩ (.slice D1 l.length e1)) (w.heap.size + 1) w1.heap.size 0 0 l D1 e1 := by
      refine ⟨?_, own_stay ho1 fun g hg => heap_setCell_other _ _ _ _ (by simp; rintro rfl; exact hnD hg), hnD⟩
      have := kb2.set_ 0 (.slice D1 l.length e1)
      simpa using this
    obtain ⟨nb, hnb⟩ : ∃ nb, Hid (nb = w1.heap.size) := ⟨_, rfl⟩
    obtain ⟨w3, HW3⟩ : ∃ w3, Hid (w3 = w2.setCell ⟨w1.heap.size, 0, none⟩ (.slice D1 l.length e1)) := ⟨_, rfl⟩
    have HZ := Lib.hid (show Blk w3 w.heap.size 25 #[.slice none 0 0, .slice none 0 0, .int .i64 0, .int .i64 0, .int .i64 0] by rw [HW3.out]; exact k02.far (by simp; omega) _)
    have HBx := Lib.hid (show Below w.heap.size w w3 by rw [HW3.out]; exact HB2.out.setCell (by simp; omega) _)
    rw [← HW3.out, ← hnb.out] at hns
    have HNS := Lib.hid hns
    have hnbw : w.heap.size + 1 ≤ nb := by rw [hnb.out]; omega
    have y0 := kb2.cell 0
    have y0f := kb2.frozen 0
    have y0z := kb2.lt
    simp at y0
    clear hns hnD kb2 k02 k01 ho1 hg1 hat1 z0 z1 z2 z3 z4 g0 g1 g2 g3 g4
    go_upto_region 5 with fail
    rw [← HW3.out, ← hnb.out]
    clear y0 y0f y0z HW3 hnb hz2 hz0
    have hlen0 : l.length ≤ 4398046510976 := hn
    have c0 := HNS.out.box.cell 0
    have cz := HNS.out.box.lt
    simp at c0
    go_wp2_with fail
    refine (rfile_any D1 (l).length e1 (l) inS _ (HNS.out.files (by omega))).mono ?_
    rintro e wq ⟨rfl, rfl⟩
    obtain ⟨j, hj⟩ : ∃ j, idxI (l) (fileP inS) = j := ⟨_, rfl⟩
    have HJ := Lib.hid hj
    rw [hj]
    clear hj
    go_upto_if 17 with fail
    obtain ⟨tb, htb⟩ : ∃ tb, decide (j < 0) = tb := ⟨_, rfl⟩
    rw [htb]
    have HTB := Lib.hid htb
    clear htb
    go_cut [] from 18 to 22 (fun wx => ∃ A' c', Hid (NewS wx (w.heap.size + 1) nb 0 0 (stepF (l) inS) A' c') ∧ Hid (Blk wx w.heap.size 25 #[.slice none 0 0, .slice none 0 0, .int .i64 0, .int .i64 0, .int .i64 0]) ∧ Hid (Below w.heap.size w wx))
    case first =>
      cases tb
      case true =>
        have hj0 : j < 0 := by simpa using HTB.out
        have HQ := Lib.hid (stepF_no (l := l) (n := inS) (by rw [HJ.out]; exact hj0))
        clear hj0
        go_wp2_with fail
        refine (put_any D1 (l).length e1 (l) (emF inS) _ (HNS.out.files (by omega)) (by omega)).mono ?_
        rintro e w5 ⟨⟨v5, rfl, ho5⟩, hb5⟩
        obtain ⟨D5, e5, rfl, -⟩ := own_form ho5
        have hns5 := HNS.out.next hb5
        have HNS5 := Lib.hid (hns5.put ho5 (insF_len _ _) (by omega) cz)
        have HBx5 := Lib.hid ((bNext HBx.out hb5).setCell (p := ⟨nb, 0, none⟩) (by simp; omega) (.slice D5 ((l).length + 1) e5))
        have HZ5 := Lib.hid ((HZ.out.next hb5).far (p := ⟨nb, 0, none⟩) (by simp; omega) (.slice D5 ((l).length + 1) e5))
        have d0 := hns5.box.cell 0
        have df := hns5.box.frozen 0
        have dz := hns5.box.lt
        simp at d0
        clear hb5 ho5 hns5 c0
        go_wp2_with fail
        go_meet
        refine ⟨D5, e5, ?_, HZ5.out, HBx5.out⟩
        have h := HNS5.out
        rw [← HQ.out] at h
        exact h
      case false =>
        have hj0 : ¬ j < 0 := by simpa using HTB.out
        have HQ := Lib.hid (stepF_yes (l := l) (n := inS) (by rw [HJ.out]; exact hj0))
        clear hj0
        go_wp2_with fail
        go_meet
        refine ⟨D1, e1, ?_, HZ.out, HBx.out⟩
        have h := HNS.out
        rw [← HQ.out] at h
        exact h
    case rest =>
      obtain ⟨A1, c1, NS1, HZ1, HB1x⟩ := hcut
      clear c0 cz HJ HTB HNS HZ HBx
      have hlen1 : (stepF l inS).length ≤ l.length + 1 := stepF_le l inS
      have c0 := NS1.out.box.cell 0
      have cz := NS1.out.box.lt
      simp at c0
      go_wp2_with fail
      refine (rfile_any A1 (stepF l inS).length c1 (stepF l inS) outS _ (NS1.out.files (by omega))).mono ?_
      rintro e wq ⟨rfl, rfl⟩
      obtain ⟨j, hj⟩ : ∃ j, idxI (stepF l inS) (fileP outS) = j := ⟨_, rfl⟩
      have HJ := Lib.hid hj
      rw [hj]
      clear hj
      go_upto_if 26 with fail
      obtain ⟨tb, htb⟩ : ∃ tb, decide (j < 0) = tb := ⟨_, rfl⟩
      rw [htb]
      have HTB := Lib.hid htb
      clear htb
      go_cut [] from 27 to 31 (fun wx => ∃ A' c', Hid (NewS wx (w.heap.size + 1) nb 0 0 (stepF (stepF l inS) outS) A' c') ∧ Hid (Blk wx w.heap.size 25 #[.slice none 0 0, .slice none 0 0, .int .i64 0, .int .i64 0, .int .i64 0]) ∧ Hid (Below w.heap.size w wx))
      case first =>
        cases tb
        case true =>
          have hj0 : j < 0 := by simpa using HTB.out
          have HQ := Lib.hid (stepF_no (l := stepF l inS) (n := outS) (by rw [HJ.out]; exact hj0))
          clear hj0
          go_wp2_with fail
          refine (put_any A1 (stepF l inS).length c1 (stepF l inS) (emF outS) _ (NS1.out.files (by omega)) (by omega)).mono ?_
          rintro e w5 ⟨⟨v5, rfl, ho5⟩, hb5⟩
          obtain ⟨D5, e5, rfl, -⟩ := own_form ho5
          have hns5 := NS1.out.next hb5
          have HNS5 := Lib.hid (hns5.put ho5 (insF_len _ _) (by omega) cz)
          have HBx5 := Lib.hid ((bNext HB1x.out hb5).setCell (p := ⟨nb, 0, none⟩) (by simp; omega) (.slice D5 ((stepF l inS).length + 1) e5))
          have HZ5 := Lib.hid ((HZ1.out.next hb5).far (p := ⟨nb, 0, none⟩) (by simp; omega) (.slice D5 ((stepF l inS).length + 1) e5))
          have d0 := hns5.box.cell 0
          have df := hns5.box.frozen 0
          have dz := hns5.box.lt
          simp at d0
          clear hb5 ho5 hns5 c0
          go_wp2_with fail
          go_meet
          refine ⟨D5, e5, ?_, HZ5.out, HBx5.out⟩
          have h := HNS5.out
          rw [← HQ.out] at h
          exact h
        case false =>
          have hj0 : ¬ j < 0 := by simpa using HTB.out
          have HQ := Lib.hid (stepF_yes (l := stepF l inS) (n := outS) (by rw [HJ.out]; exact hj0))
          clear hj0
          go_wp2_with fail
          go_meet
          refine ⟨A1, c1, ?_, HZ1.out, HB1x.out⟩
          have h := NS1.out
          rw [← HQ.out] at h
          exact h
      case rest =>
        obtain ⟨A2, c2, NS2, HZ2, HB2x⟩ := hcut
        clear c0 cz HJ HTB NS1 HZ1 HB1x
        have hlen2 := Lk_le l 2
        have hlen2 : (newFiles l).length ≤ l.length + 2 := hlen2
        have HN2 : Hid (NewS wc (w.heap.size + 1) nb 0 0 (newFiles l) A2 c2) := NS2.out
        clear NS2
        obtain ⟨L, hL⟩ : ∃ L, newFiles l = L := ⟨_, rfl⟩
        rw [hL] at HN2 hlen2
        have HL := Lib.hid hL
        clear hL
        have c0 := HN2.out.box.cell 0
        have c1' := HN2.out.box.cell 1
        have c2' := HN2.out.box.cell 2
        have c3' := HN2.out.box.cell 3
        have c4' := HN2.out.box.cell 4
        have f1 := HN2.out.box.frozen 1
        have f3 := HN2.out.box.frozen 3
        have f4 := HN2.out.box.frozen 4
        have hnb3 := HN2.out.box.lt
        simp at c0 c1' c2' c3' c4'
        have zz := HZ2.out.lt
        have z0 := HZ2.out.cell 0
        have z1 := HZ2.out.cell 1
        have z2 := HZ2.out.cell 2
        have z3 := HZ2.out.cell 3
        have z4 := HZ2.out.cell 4
        simp at z0 z1 z2 z3 z4
        have g0 := HZ2.out.frozen 0
        have g1 := HZ2.out.frozen 1
        have g2 := HZ2.out.frozen 2
        have g3 := HZ2.out.frozen 3
        have g4 := HZ2.out.frozen 4
        by_cases h16 : 16 < (L.length : Int)
        · have HR := Lib.hid (show newV l = .error 13 by rw [HRG.out, HL.out, if_pos (by omega)])
          go_wp2_with fail
          refine bodyPost_ret (v := .tuple #[zV, .int .i64 13]) (by simp only [results, Try.results11]; go_simp) rfl (RetS.bad HR.out ?_)
          repeat (first | (with_reducible exact HB2x.out) | ((with_reducible refine Below.setCell ?_ ?_ _); rotate_left; focus (first | (simp; done) | (simp; omega))) | ((with_reducible refine Below.alloc ?_ ?_ _); rotate_left; focus (first | (simp; done) | (simp; omega))))
        · have HR := Lib.hid (show newV l = .ok (newS l) by rw [HRG.out, HL.out, if_neg (by omega)])
          go_wp2_with fail
          refine bodyPost_ret (v := .tuple #[.agg #[.slice A2 L.length c2, .slice (some ⟨wc.heap.size, 0, none⟩) 2 2, .int .i64 0, .int .i64 1, .int .i64 2], .int .i64 0]) (by simp only [results, Try.results11]; go_simp) rfl (RetS.good HR.out ?_ ?_)
          · refine OwnS.base (b := w.heap.size + 1) ?_ (by omega)
            rw [newS, HL.out]
            refine ⟨_, _, rfl, ?_, ?_⟩
            · refine own_stay HN2.out.own fun g hg => ?_
              have h1 := (HN2.out.own.lt g hg).1
              have h2 : g ≠ nb := fun h => HN2.out.far (by rw [← h]; exact hg)
              have h3 := (HN2.out.own.lt g hg).2
              rw [Below.heap_alloc _ _ _ (by simp; omega)]
              repeat rw [heap_setCell_other _ _ _ _ (by simp; omega)]
            · exact own_block (key_alloc _ _ _ (by simp)) (by omega) rfl (by decide) rfl
          · repeat (first | (with_reducible exact HB2x.out) | (with_reducible refine bDrewN (n := 1) ?_) | ((with_reducible refine Below.setCell ?_ ?_ _); rotate_left; focus (first | (simp; done) | (simp; omega))) | ((with_reducible refine Below.alloc ?_ ?_ _); rotate_left; focus (first | (simp; done) | (simp; omega))))
end Go.Proofs.Ytklpghpfdeojeaa
