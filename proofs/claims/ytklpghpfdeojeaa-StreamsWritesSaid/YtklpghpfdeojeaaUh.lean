/-
  Walk: Put of the program.
-/
import Derived.Test.YtklpghpfdeojeaaUb
import Derived.Test.YtklpghpfdeojeaaRegT
import Derived.BigQuiet
import Derived.Deep.QuietTactic
namespace Go.Proofs.Ytklpghpfdeojeaa
open Go.RowKit

set_option maxHeartbeats 4000000 in
theorem Put_any (v : Value) (s : Sm) (id : Int) (t : ByteArray) (w : World) (hs : SmAt w w.heap.size v s) :
    Calls Try.prog 24 #[v, .int .i64 id, .string t] w (RetS (putV s id t) w) := by
  obtain ⟨A0, c0, A1, c1, rfl, hcap, h0, h1⟩ := hs
  have HS : Hid (SmAt w w.heap.size (smV A0 A1 c0 c1 s) s) := ⟨A0, c0, A1, c1, rfl, hcap, h0, h1⟩
  have HA := Lib.hid h0
  have HO := Lib.hid h1
  have hfl := h0.1.2
  have hol := h1.1.2
  clear h0 h1 hcap
  cases ha : askV s id (decide ((t.size : Int) ≤ 16384)) with
  | error er =>
    have HR := Lib.hid (show putV s id t = .error er by simp [putV, ha])
    rcases askV_er ha with rfl | rfl
    · have HA2 := Lib.hid ha
      clear ha
      obtain ⟨W, HWd⟩ : ∃ W, Hid (W = (((w.alloc (.cells #[.slice A0 s.files.length c0, .slice A1 s.opn.length c1, .int .i64 s.inp, .int .i64 s.out, .int .i64 s.nxt] 25)).alloc (.cells #[.string t] 9)).alloc (.cells #[.slice none 0 0, .slice none 0 0, .int .i64 0, .int .i64 0, .int .i64 0] 25))) := ⟨_, rfl⟩
      have hbW : Below w.heap.size w W := by
        rw [HWd.out]
        exact (Below.alloc (Below.alloc (bAlloc w _) (by simp) _) (by simp; omega) _)
      have hzW : W.heap.size = w.heap.size + 3 := by rw [HWd.out]; simp
      have k0 : Blk W w.heap.size 25 #[.slice A0 s.files.length c0, .slice A1 s.opn.length c1, .int .i64 s.inp, .int .i64 s.out, .int .i64 s.nxt] := by rw [HWd.out]; exact (Blk.alloc (Blk.alloc (Blk.new _ _ _) (.cells #[.string t] 9)) (.cells #[.slice none 0 0, .slice none 0 0, .int .i64 0, .int .i64 0, .int .i64 0] 25))
      have k1 : Blk W (w.heap.size + 1) 9 #[.string t] := by
        have h := (Blk.alloc (Blk.new (w.alloc (.cells #[.slice A0 s.files.length c0, .slice A1 s.opn.length c1, .int .i64 s.inp, .int .i64 s.out, .int .i64 s.nxt] 25)) 9 #[.string t]) (.cells #[.slice none 0 0, .slice none 0 0, .int .i64 0, .int .i64 0, .int .i64 0] 25))
        rw [World.size_alloc] at h
        rw [HWd.out]; exact h
      have k2 : Blk W (w.heap.size + 1 + 1) 25 #[.slice none 0 0, .slice none 0 0, .int .i64 0, .int .i64 0, .int .i64 0] := by
        have h := (Blk.new ((w.alloc (.cells #[.slice A0 s.files.length c0, .slice A1 s.opn.length c1, .int .i64 s.inp, .int .i64 s.out, .int .i64 s.nxt] 25)).alloc (.cells #[.string t] 9)) 25 #[.slice none 0 0, .slice none 0 0, .int .i64 0, .int .i64 0, .int .i64 0])
        rw [World.size_alloc, World.size_alloc] at h
        rw [HWd.out]; exact h
      have HBW := Lib.hid hbW
      clear hbW
      go_enter Try.func24, Try.ntmps24
      go_wp2_with fail
      rw [← HWd.out]
      refine (opened_bad HA2.out _ _ (HS.out.next HBW.out)).mono ?_
      rintro e w1 ⟨rfl, hb1⟩
      have HB1 := Lib.hid (bNext HBW.out hb1)
      have k01 := k0.next hb1
      have k11 := k1.next hb1
      have k21 := k2.next hb1
      obtain ⟨p0, p1, p2, p3, p4⟩ := smBox k01
      have z0 := k21.cell 0
      have z1 := k21.cell 1
      have z2 := k21.cell 2
      have z3 := k21.cell 3
      have z4 := k21.cell 4
      simp at z0 z1 z2 z3 z4
      have g0 := k21.frozen 0
      have g1 := k21.frozen 1
      have g2 := k21.frozen 2
      have g3 := k21.frozen 3
      have g4 := k21.frozen 4
      have zz := k21.lt
      have hz0 : w.heap.size < w1.heap.size := by omega
      have hz1 : w.heap.size + 1 < w1.heap.size := by omega
      have ck1 := k11.cell 0
      simp at ck1
      clear hb1 k0 k01 k1 k11 k2 k21
      go_wp2_with fail
      refine bodyPost_ret (v := .tuple #[zV, .int .i64 1]) (by simp only [results, Try.results24]; go_simp) rfl (RetS.bad HR.out ?_)
      repeat (first | (with_reducible exact HB1.out) | ((with_reducible refine Below.setCell ?_ ?_ _); rotate_left; focus (first | (simp; done) | (simp; omega))) | ((with_reducible refine Below.alloc ?_ ?_ _); rotate_left; focus (first | (simp; done) | (simp; omega))))
    · have HA2 := Lib.hid ha
      clear ha
      obtain ⟨W, HWd⟩ : ∃ W, Hid (W = (((w.alloc (.cells #[.slice A0 s.files.length c0, .slice A1 s.opn.length c1, .int .i64 s.inp, .int .i64 s.out, .int .i64 s.nxt] 25)).alloc (.cells #[.string t] 9)).alloc (.cells #[.slice none 0 0, .slice none 0 0, .int .i64 0, .int .i64 0, .int .i64 0] 25))) := ⟨_, rfl⟩
      have hbW : Below w.heap.size w W := by
        rw [HWd.out]
        exact (Below.alloc (Below.alloc (bAlloc w _) (by simp) _) (by simp; omega) _)
      have hzW : W.heap.size = w.heap.size + 3 := by rw [HWd.out]; simp
      have k0 : Blk W w.heap.size 25 #[.slice A0 s.files.length c0, .slice A1 s.opn.length c1, .int .i64 s.inp, .int .i64 s.out, .int .i64 s.nxt] := by rw [HWd.out]; exact (Blk.alloc (Blk.alloc (Blk.new _ _ _) (.cells #[.string t] 9)) (.cells #[.slice none 0 0, .slice none 0 0, .int .i64 0, .int .i64 0, .int .i64 0] 25))
      have k1 : Blk W (w.heap.size + 1) 9 #[.string t] := by
        have h := (Blk.alloc (Blk.new (w.alloc (.cells #[.slice A0 s.files.length c0, .slice A1 s.opn.length c1, .int .i64 s.inp, .int .i64 s.out, .int .i64 s.nxt] 25)) 9 #[.string t]) (.cells #[.slice none 0 0, .slice none 0 0, .int .i64 0, .int .i64 0, .int .i64 0] 25))
        rw [World.size_alloc] at h
        rw [HWd.out]; exact h
      have k2 : Blk W (w.heap.size + 1 + 1) 25 #[.slice none 0 0, .slice none 0 0, .int .i64 0, .int .i64 0, .int .i64 0] := by
        have h := (Blk.new ((w.alloc (.cells #[.slice A0 s.files.length c0, .slice A1 s.opn.length c1, .int .i64 s.inp, .int .i64 s.out, .int .i64 s.nxt] 25)).alloc (.cells #[.string t] 9)) 25 #[.slice none 0 0, .slice none 0 0, .int .i64 0, .int .i64 0, .int .i64 0])
        rw [World.size_alloc, World.size_alloc] at h
        rw [HWd.out]; exact h
      have HBW := Lib.hid hbW
      clear hbW
      go_enter Try.func24, Try.ntmps24
      go_wp2_with fail
      rw [← HWd.out]
      refine (opened_bad HA2.out _ _ (HS.out.next HBW.out)).mono ?_
      rintro e w1 ⟨rfl, hb1⟩
      have HB1 := Lib.hid (bNext HBW.out hb1)
      have k01 := k0.next hb1
      have k11 := k1.next hb1
      have k21 := k2.next hb1
      obtain ⟨p0, p1, p2, p3, p4⟩ := smBox k01
      have z0 := k21.cell 0
      have z1 := k21.cell 1
      have z2 := k21.cell 2
      have z3 := k21.cell 3
      have z4 := k21.cell 4
      simp at z0 z1 z2 z3 z4
      have g0 := k21.frozen 0
      have g1 := k21.frozen 1
      have g2 := k21.frozen 2
      have g3 := k21.frozen 3
      have g4 := k21.frozen 4
      have zz := k21.lt
      have hz0 : w.heap.size < w1.heap.size := by omega
      have hz1 : w.heap.size + 1 < w1.heap.size := by omega
      have ck1 := k11.cell 0
      simp at ck1
      clear hb1 k0 k01 k1 k11 k2 k21
      go_wp2_with fail
      refine bodyPost_ret (v := .tuple #[zV, .int .i64 4]) (by simp only [results, Try.results24]; go_simp) rfl (RetS.bad HR.out ?_)
      repeat (first | (with_reducible exact HB1.out) | ((with_reducible refine Below.setCell ?_ ?_ _); rotate_left; focus (first | (simp; done) | (simp; omega))) | ((with_reducible refine Below.alloc ?_ ?_ _); rotate_left; focus (first | (simp; done) | (simp; omega))))
  | ok i =>
    obtain ⟨hv, hok, hix, x, hx, hid⟩ := askV_ok ha
    have htl : (t.size : Int) ≤ 16384 := by simpa using hok
    have HRP := Lib.hid (show putV s id t = if x.mode == 1 then .error 5 else if 16384 < (fileOf s x).text.size + t.size then .error 13 else .ok (putS s x t) by simp [putV, ha, hx])
    rw [hok] at ha
    clear hok hix
    have hil := (List.getElem?_eq_some_iff.1 hx).1
    obtain ⟨k, hk1, hk2, hk3, hk4, hk5⟩ := valid_file hv hx
    have hkl := (List.getElem?_eq_some_iff.1 hk2).1
    obtain ⟨hvf, hvo, hvn1, hvn2, -, -⟩ := valid_head hv
    obtain ⟨b, off, x', rfl, hb, hx', hx4⟩ := HO.out.at hil
    rw [hx] at hx'
    injection hx' with hx'
    subst hx'
    obtain ⟨bf, offf, f', rfl, hbf, hf', hf4⟩ := HA.out.at hkl
    rw [hk2] at hf'
    injection hf' with hf'
    obtain ⟨f, hfd⟩ : ∃ f, fileOf s x = f := ⟨_, rfl⟩
    rw [hfd] at hf' hk2 hk3 hk4 hk5
    subst hf'
    have HFD := Lib.hid hfd
    have HX := Lib.hid hx
    have HV := Lib.hid hv
    have HX4 := Lib.hid hx4
    have HF4 := Lib.hid hf4
    have HK1x := Lib.hid hk1
    have HK2x := Lib.hid hk2
    have HK5x := Lib.hid hk5
    clear hk1 hk2 hk3 hk5 hv hx hfd hx4 hf4
    have hili : (i : Int) < (s.opn.length : Int) := by omega
    have hkli : (k : Int) < (s.files.length : Int) := by omega
    rw [HFD.out] at HRP
    have HA2 := Lib.hid ha
    clear ha
    obtain ⟨W, HWd⟩ : ∃ W, Hid (W = (((w.alloc (.cells #[.slice (some ⟨bf, offf, none⟩) s.files.length c0, .slice (some ⟨b, off, none⟩) s.opn.length c1, .int .i64 s.inp, .int .i64 s.out, .int .i64 s.nxt] 25)).alloc (.cells #[.string t] 9)).alloc (.cells #[.slice none 0 0, .slice none 0 0, .int .i64 0, .int .i64 0, .int .i64 0] 25))) := ⟨_, rfl⟩
    have hbW : Below w.heap.size w W := by
      rw [HWd.out]
      exact (Below.alloc (Below.alloc (bAlloc w _) (by simp) _) (by simp; omega) _)
    have hzW : W.heap.size = w.heap.size + 3 := by rw [HWd.out]; simp
    have k0 : Blk W w.heap.size 25 #[.slice (some ⟨bf, offf, none⟩) s.files.length c0, .slice (some ⟨b, off, none⟩) s.opn.length c1, .int .i64 s.inp, .int .i64 s.out, .int .i64 s.nxt] := by rw [HWd.out]; exact (Blk.alloc (Blk.alloc (Blk.new _ _ _) (.cells #[.string t] 9)) (.cells #[.slice none 0 0, .slice none 0 0, .int .i64 0, .int .i64 0, .int .i64 0] 25))
    have k1 : Blk W (w.heap.size + 1) 9 #[.string t] := by
      have h := (Blk.alloc (Blk.new (w.alloc (.cells #[.slice (some ⟨bf, offf, none⟩) s.files.length c0, .slice (some ⟨b, off, none⟩) s.opn.length c1, .int .i64 s.inp, .int .i64 s.out, .int .i64 s.nxt] 25)) 9 #[.string t]) (.cells #[.slice none 0 0, .slice none 0 0, .int .i64 0, .int .i64 0, .int .i64 0] 25))
      rw [World.size_alloc] at h
      rw [HWd.out]; exact h
    have k2 : Blk W (w.heap.size + 1 + 1) 25 #[.slice none 0 0, .slice none 0 0, .int .i64 0, .int .i64 0, .int .i64 0] := by
      have h := (Blk.new ((w.alloc (.cells #[.slice (some ⟨bf, offf, none⟩) s.files.length c0, .slice (some ⟨b, off, none⟩) s.opn.length c1, .int .i64 s.inp, .int .i64 s.out, .int .i64 s.nxt] 25)).alloc (.cells #[.string t] 9)) 25 #[.slice none 0 0, .slice none 0 0, .int .i64 0, .int .i64 0, .int .i64 0])
      rw [World.size_alloc, World.size_alloc] at h
      rw [HWd.out]; exact h
    have HBW := Lib.hid hbW
    clear hbW
    go_enter Try.func24, Try.ntmps24
    go_wp2_with fail
    rw [← HWd.out]
    refine (opened_good HA2.out _ _ (HS.out.next HBW.out)).mono ?_
    rintro e w1 ⟨rfl, hb1⟩
    have HB1 := Lib.hid (bNext HBW.out hb1)
    have k01 := k0.next hb1
    have k11 := k1.next hb1
    have k21 := k2.next hb1
    obtain ⟨p0, p1, p2, p3, p4⟩ := smBox k01
    have z0 := k21.cell 0
    have z1 := k21.cell 1
    have z2 := k21.cell 2
    have z3 := k21.cell 3
    have z4 := k21.cell 4
    simp at z0 z1 z2 z3 z4
    have g0 := k21.frozen 0
    have g1 := k21.frozen 1
    have g2 := k21.frozen 2
    have g3 := k21.frozen 3
    have g4 := k21.frozen 4
    have zz := k21.lt
    have hz0 : w.heap.size < w1.heap.size := by omega
    have hz1 : w.heap.size + 1 < w1.heap.size := by omega
    have ck1 := k11.cell 0
    simp at ck1
    clear hb1 k0 k1 k2
    obtain ⟨q0, q1, q2, q3, q4, q5, q6⟩ := HX4.out.below hb HB1.out
    have hbl : b < w1.heap.size := by omega
    cases hm : x.mode == 1
    case true =>
      have HR := Lib.hid (show putV s id t = .error 5 by rw [HRP.out, hm]; rfl)
      go_wp2_with fail
      refine bodyPost_ret (v := .tuple #[zV, .int .i64 5]) (by simp only [results, Try.results24]; go_simp) rfl (RetS.bad HR.out ?_)
      repeat (first | (with_reducible exact HB1.out) | ((with_reducible refine Below.setCell ?_ ?_ _); rotate_left; focus (first | (simp; done) | (simp; omega))) | ((with_reducible refine Below.alloc ?_ ?_ _); rotate_left; focus (first | (simp; done) | (simp; omega))))
    case false =>
      have HM := Lib.hid hm
      have HRQ := Lib.hid (show putV s id t = if 16384 < f.text.size + t.size then .error 13 else .ok (putS s x t) by rw [HRP.out, hm]; rfl)
      go_wp2_with fail
      refine wp_region_N (fun w' => Blk w' w.heap.size 25 #[.slice (some ⟨bf, offf, none⟩) s.files.length c0, .slice (some ⟨b, off, none⟩) s.opn.length c1, .int .i64 s.inp, .int .i64 s.out, .int .i64 s.nxt] ∧ w'.cell? ⟨b, off + i * 7 + 1, none⟩ = some (.string x.file)) (fun j => decide (j < 9)) (by kernel_rfl) ?_
      have hS0 : (fun w' => Blk w' w.heap.size 25 #[.slice (some ⟨bf, offf, none⟩) s.files.length c0, .slice (some ⟨b, off, none⟩) s.opn.length c1, .int .i64 s.inp, .int .i64 s.out, .int .i64 s.nxt] ∧ w'.cell? ⟨b, off + i * 7 + 1, none⟩ = some (.string x.file)) w1.drew := ⟨k01, q1⟩
      refine wpAnyN_take (i := 0) (v := ?v1) rfl (by kernel_rfl) (by kernel_rfl) (by kernel_rfl) (by kernel_rfl) (fun _ _ _ h => h) (Or.inl ⟨by rfl, ?hy1⟩) (by assumption) ?_
      case hy1 => intro w hSw; obtain ⟨y0, y1, y2, y3, y4⟩ := smBox hSw.1; have yc := hSw.2; go_simp; try with_reducible rfl
      simp only [Act.put, List.getElem_toArray, List.getElem_cons_zero, List.setIfInBounds_toArray, List.set_cons_zero, List.set_cons_succ]
      refine wpAnyN_take (i := 1) (v := ?v2) rfl (by kernel_rfl) (by kernel_rfl) (by kernel_rfl) (by kernel_rfl) (fun _ _ _ h => h) (Or.inl ⟨by rfl, ?hy2⟩) (by assumption) ?_
      case hy2 => intro w hSw; obtain ⟨y0, y1, y2, y3, y4⟩ := smBox hSw.1; have yc := hSw.2; go_simp; try with_reducible rfl
      simp only [Act.put, List.getElem_toArray, List.getElem_cons_zero, List.getElem_cons_succ, List.setIfInBounds_toArray, List.set_cons_zero, List.set_cons_succ]
      refine wpAnyN_take (i := 2) (v := ?v3) rfl (by kernel_rfl) (by kernel_rfl) (by kernel_rfl) (by kernel_rfl) (fun _ _ _ h => h) (Or.inl ⟨by rfl, ?hy3⟩) (by assumption) ?_
      case hy3 => intro w hSw; obtain ⟨y0, y1, y2, y3, y4⟩ := smBox hSw.1; have yc := hSw.2; go_simp; try with_reducible rfl
      simp only [Act.put, List.getElem_toArray, List.getElem_cons_zero, List.getElem_cons_succ, List.setIfInBounds_toArray, List.set_cons_zero, List.set_cons_succ]
      refine wpAnyN_take (i := 3) (v := ?v4) rfl (by kernel_rfl) (by kernel_rfl) (by kernel_rfl) (by kernel_rfl) (fun _ _ _ h => h) (Or.inl ⟨by rfl, ?hy4⟩) (by assumption) ?_
      case hy4 => intro w hSw; obtain ⟨y0, y1, y2, y3, y4⟩ := smBox hSw.1; have yc := hSw.2; go_simp; try with_reducible rfl
      simp only [Act.put, List.getElem_toArray, List.getElem_cons_zero, List.getElem_cons_succ, List.setIfInBounds_toArray, List.set_cons_zero, List.set_cons_succ]
      refine wpAnyN_take (i := 4) (v := ?v5) rfl (by kernel_rfl) (by kernel_rfl) (by kernel_rfl) (by kernel_rfl) (fun _ _ _ h => h) (Or.inl ⟨by rfl, ?hy5⟩) (by assumption) ?_
      case hy5 => intro w hSw; obtain ⟨y0, y1, y2, y3, y4⟩ := smBox hSw.1; have yc := hSw.2; go_simp; try with_reducible rfl
      simp only [Act.put, List.getElem_toArray, List.getElem_cons_zero, List.getElem_cons_succ, List.setIfInBounds_toArray, List.set_cons_zero, List.set_cons_succ]
      refine wpAnyN_take (i := 5) (v := ?v6) rfl (by kernel_rfl) (by kernel_rfl) (by kernel_rfl) (by kernel_rfl) (fun _ _ _ h => h) (Or.inl ⟨by rfl, ?hy6⟩) (by assumption) ?_
      case hy6 => intro w hSw; obtain ⟨y0, y1, y2, y3, y4⟩ := smBox hSw.1; have yc := hSw.2; go_simp; try with_reducible rfl
      simp only [Act.put, List.getElem_toArray, List.getElem_cons_zero, List.getElem_cons_succ, List.setIfInBounds_toArray, List.set_cons_zero, List.set_cons_succ]
      refine wpAnyN_take (i := 6) (v := ?v7) rfl (by kernel_rfl) (by kernel_rfl) (by kernel_rfl) (by kernel_rfl) (fun _ _ _ h => h) (Or.inl ⟨by rfl, ?hy7⟩) (by assumption) ?_
      case hy7 => intro w hSw; obtain ⟨y0, y1, y2, y3, y4⟩ := smBox hSw.1; have yc := hSw.2; go_simp; try with_reducible rfl
      simp only [Act.put, List.getElem_toArray, List.getElem_cons_zero, List.getElem_cons_succ, List.setIfInBounds_toArray, List.set_cons_zero, List.set_cons_succ]
      refine wpAnyN_two (i := 7) (j := 8) (by kernel_rfl) rfl rfl (fun K hK => ?_) (fun K hK => ?_)
      · simp only [List.getElem_toArray, List.getElem_cons_zero, List.getElem_cons_succ]
        go_simp
        refine (file_any _ s x.file _ (HS.out.next (bDrewN HB1.out 1))).mono ?_
        rintro e v1 ⟨rfl, hb1⟩
        have hB1 := bNext (bDrewN HB1.out 1) hb1
        have k03 := Blk.next (w := w1.drew) k01 hb1
        have k13 := Blk.next (w := w1.drew) k11 hb1
        have k23 := Blk.next (w := w1.drew) k21 hb1
        rw [HK1x.out]
        refine hK _ _ (fun _ => ⟨k03, (HX4.out.below hb hB1).2.1⟩) ?_
        refine wpAnyN_one (i := 8) (by kernel_rfl) rfl (fun K hK => ?_)
        simp only [List.getElem_toArray, List.getElem_cons_zero, List.getElem_cons_succ]
        go_simp
        refine hK _ _ (fun _ => ⟨k03.alloc _, (HX4.out.below hb (hB1.alloc (by have := k03.lt; omega) _)).2.1⟩) ?_
        refine wpAnyN_one (i := 9) (by kernel_rfl) rfl (fun K hK => ?_)
        simp only [List.getElem_toArray, List.getElem_cons_zero, List.getElem_cons_succ]
        go_simp
        refine hK _ _ (fun h => absurd h (by decide)) ?_
        refine wpAnyN_done (by kernel_rfl) ?_ _
        obtain ⟨wx, HWX⟩ : ∃ wx, Hid (wx = v1.alloc (.cells #[.int .i64 (k : Int)] 3)) := ⟨_, rfl⟩
        have HBx := Lib.hid (show Below w.heap.size w wx by rw [HWX.out]; exact hB1.alloc (by have := k03.lt; omega) _)
        have KX0 := Lib.hid (show Blk wx w.heap.size 25 _ by rw [HWX.out]; exact k03.alloc _)
        have KX1 := Lib.hid (show Blk wx (w.heap.size + 1) 9 _ by rw [HWX.out]; exact k13.alloc _)
        have KX2 := Lib.hid (show Blk wx (w.heap.size + 1 + 1) 25 _ by rw [HWX.out]; exact k23.alloc _)
        have KP := Lib.hid (show Blk wx v1.heap.size 3 #[.int .i64 (k : Int)] by rw [HWX.out]; exact Blk.new v1 3 _)
        have hlv : w1.heap.size ≤ v1.heap.size := by have := hb1.size; simpa using this
        rw [← HWX.out]
        clear hB1 k03 k13 k23 hb1 p0 p1 p2 p3 p4 z0 z1 z2 z3 z4 g0 g1 g2 g3 g4 zz ck1 q0 q1 q2 q3 q4 q5 q6 k01 k11 k21 hS0
        obtain ⟨y0, y1, y2, y3, y4⟩ := smBox KX0.out
        have t0 := KX1.out.cell 0
        have t1 := KP.out.cell 0
        simp at t0 t1
        have z0 := KX2.out.cell 0
        have z1 := KX2.out.cell 1
        have z2 := KX2.out.cell 2
        have z3 := KX2.out.cell 3
        have z4 := KX2.out.cell 4
        simp at z0 z1 z2 z3 z4
        have g0 := KX2.out.frozen 0
        have g1 := KX2.out.frozen 1
        have g2 := KX2.out.frozen 2
        have g3 := KX2.out.frozen 3
        have g4 := KX2.out.frozen 4
        have zz := KX2.out.lt
        have zp := KP.out.lt
        have zk0 := KX0.out.lt
        have zk1 := KX1.out.lt
        obtain ⟨g1', g2'⟩ := HF4.out.below hbf HBx.out
        have hwr : IntKind.i64.wrap ((f.text.size : Int) + (t.size : Int)) = (f.text.size : Int) + (t.size : Int) := by rw [IntKind.wrap_i64]; omega
        by_cases hfull : 16384 < (f.text.size : Int) + (t.size : Int)
        · have HR := Lib.hid (show putV s id t = .error 13 by rw [HRQ.out, if_pos (by omega)])
          go_wp2_with fail
          go_quiet (fail)
          go_wp2_with fail
          refine bodyPost_ret (v := .tuple #[zV, .int .i64 13]) (by simp only [results, Try.results24]; go_simp) rfl (RetS.bad HR.out ?_)
          repeat (first | (with_reducible refine bDrewN (n := _) ?_) | (with_reducible exact HBx.out) | ((with_reducible refine Below.setCell ?_ ?_ _); rotate_left; focus (first | (simp; done) | (simp; omega))) | ((with_reducible refine Below.alloc ?_ ?_ _); rotate_left; focus (first | (simp; done) | (simp; omega))))
        · have HR := Lib.hid (show putV s id t = .ok (putS s x t) by rw [HRQ.out, if_neg (by omega)])
          go_wp2_with fail
          go_quiet (fail)
          obtain ⟨u, hu⟩ : ∃ u, Hid (putS s x t = u) := ⟨_, rfl⟩
          have hu1 : u.files.length ≤ 4398046511104 ∧ u.opn.length ≤ 1954687338268 := by
            rw [← hu.out]
            refine ⟨?_, by show s.opn.length ≤ _; omega⟩
            show (s.files.set _ _).length ≤ _
            rw [List.length_set]; omega
          go_wp2_with fail
          refine (with53_any _ s u v1.heap.size (w.heap.size + 1) _ (HS.out.next (bDrewN HBx.out _)) hu1.1 hu1.2 ?hap1).mono ?_
          case hap1 =>
            intro w6 B nb hnb hb6 hnw
            rw [← hu.out, putS, HK1x.out, HFD.out]
            exact put1_any nb B v1.heap.size (w.heap.size + 1) k t s f w6 hnw (by have := Blk.next (w := wx.drewN _) KP.out hb6; have := this.cell 0; simpa using this) (by have := Blk.next (w := wx.drewN _) KX1.out hb6; have := this.cell 0; simpa using this) HK2x.out (by omega) (by omega)
          rintro e w5 ⟨⟨v', rfl, ho⟩, hb2⟩
          obtain ⟨v0, v1, rfl, o0, o1⟩ := ho
          obtain ⟨D0, e0, rfl, -⟩ := own_form o0
          obtain ⟨D1, e1, rfl, -⟩ := own_form o1
          have HOW := Lib.hid (show OwnS w5 _ _ _ from ⟨_, _, rfl, o0, o1⟩)
          have HB5 := Lib.hid (bNext (bDrewN HBx.out _) hb2)
          have k25 := Blk.next (w := wx.drewN _) KX2.out hb2
          have hz2 := hb2.size
          simp at hz2
          clear z0 z1 z2 z3 z4 g0 g1 g2 g3 g4
          have z0 := k25.cell 0
          have z1 := k25.cell 1
          have z2 := k25.cell 2
          have z3 := k25.cell 3
          have z4 := k25.cell 4
          simp at z0 z1 z2 z3 z4
          have g0 := k25.frozen 0
          have g1 := k25.frozen 1
          have g2 := k25.frozen 2
          have g3 := k25.frozen 3
          have g4 := k25.frozen 4
          have zz5 := k25.lt
          clear hb2 k25 o0 o1 hu1
          go_wp2_with fail
          refine bodyPost_ret (v := .tuple #[smV D0 D1 e0 e1 u, .int .i64 0]) (by simp only [results, Try.results24]; go_simp) rfl (RetS.good (HR.out.trans (by rw [hu.out])) ?_ ?_)
          · refine (HOW.out.stay fun b' hb' _ => ?_).base (by simp; omega)
            simp at hb'
            repeat rw [heap_setCell_other _ _ _ _ (by simp; omega)]
          · repeat (first | (with_reducible exact HB5.out) | ((with_reducible refine Below.setCell ?_ ?_ _); rotate_left; focus (first | (simp; done) | (simp; omega))) | ((with_reducible refine Below.alloc ?_ ?_ _); rotate_left; focus (first | (simp; done) | (simp; omega))))
      · simp only [List.getElem_toArray, List.getElem_cons_zero, List.getElem_cons_succ]
        go_simp
        have hw8 : Below w.heap.size w (w1.drew.alloc (.cells #[.int .i64 0] 3)) := (bDrewN HB1.out 1).alloc (by simp; omega) _
        have k02 : Blk (w1.drew.alloc (.cells #[.int .i64 0] 3)) w.heap.size 25 _ := Blk.alloc (w := w1.drew) k01 _
        have k12 : Blk (w1.drew.alloc (.cells #[.int .i64 0] 3)) (w.heap.size + 1) 9 _ := Blk.alloc (w := w1.drew) k11 _
        have k22 : Blk (w1.drew.alloc (.cells #[.int .i64 0] 3)) (w.heap.size + 1 + 1) 25 _ := Blk.alloc (w := w1.drew) k21 _
        have kp2 : Blk (w1.drew.alloc (.cells #[.int .i64 0] 3)) w1.heap.size 3 #[.int .i64 0] := Blk.new w1.drew 3 _
        refine hK _ _ (fun _ => ⟨k02, (HX4.out.below hb hw8).2.1⟩) ?_
        refine wpAnyN_one (i := 7) (by kernel_rfl) rfl (fun K hK => ?_)
        simp only [List.getElem_toArray, List.getElem_cons_zero, List.getElem_cons_succ]
        go_simp
        refine (file_any _ s x.file _ (HS.out.next hw8)).mono ?_
        rintro e v1 ⟨rfl, hb1⟩
        have hB1 := bNext hw8 hb1
        have k03 := k02.next hb1
        have k13 := k12.next hb1
        have k23 := k22.next hb1
        have kp3 := kp2.next hb1
        have kc := kp3.cell 0
        have kf := kp3.frozen 0
        have kl := kp3.lt
        simp at kc
        rw [HK1x.out]
        refine hK _ _ (fun _ => ⟨k03, (HX4.out.below hb hB1).2.1⟩) ?_
        refine wpAnyN_one (i := 9) (by kernel_rfl) rfl (fun K hK => ?_)
        simp only [List.getElem_toArray, List.getElem_cons_zero, List.getElem_cons_succ]
        go_simp
        refine hK _ _ (fun h => absurd h (by decide)) ?_
        refine wpAnyN_done (by kernel_rfl) ?_ _
        obtain ⟨wx, HWX⟩ : ∃ wx, Hid (wx = v1.setCell ⟨w1.heap.size, 0, none⟩ (.int .i64 (k : Int))) := ⟨_, rfl⟩
        have HBx := Lib.hid (show Below w.heap.size w wx by rw [HWX.out]; exact hB1.setCell (by simp; omega) _)
        have KX0 := Lib.hid (show Blk wx w.heap.size 25 _ by rw [HWX.out]; exact k03.far (by simp; omega) _)
        have KX1 := Lib.hid (show Blk wx (w.heap.size + 1) 9 _ by rw [HWX.out]; exact k13.far (by simp; omega) _)
        have KX2 := Lib.hid (show Blk wx (w.heap.size + 1 + 1) 25 _ by rw [HWX.out]; exact k23.far (by simp; omega) _)
        have KP := Lib.hid (show Blk wx w1.heap.size 3 #[.int .i64 (k : Int)] by rw [HWX.out]; have h := kp3.set_ 0 (.int .i64 (k : Int)); simpa using h)
        rw [← HWX.out]
        clear hB1 k03 k13 k23 kp3 kc kf kl k02 k12 k22 kp2 hw8 hb1 p0 p1 p2 p3 p4 z0 z1 z2 z3 z4 g0 g1 g2 g3 g4 zz ck1 q0 q1 q2 q3 q4 q5 q6 k01 k11 k21 hS0
        obtain ⟨y0, y1, y2, y3, y4⟩ := smBox KX0.out
        have t0 := KX1.out.cell 0
        have t1 := KP.out.cell 0
        simp at t0 t1
        have z0 := KX2.out.cell 0
        have z1 := KX2.out.cell 1
        have z2 := KX2.out.cell 2
        have z3 := KX2.out.cell 3
        have z4 := KX2.out.cell 4
        simp at z0 z1 z2 z3 z4
        have g0 := KX2.out.frozen 0
        have g1 := KX2.out.frozen 1
        have g2 := KX2.out.frozen 2
        have g3 := KX2.out.frozen 3
        have g4 := KX2.out.frozen 4
        have zz := KX2.out.lt
        have zp := KP.out.lt
        have zk0 := KX0.out.lt
        have zk1 := KX1.out.lt
        obtain ⟨g1', g2'⟩ := HF4.out.below hbf HBx.out
        have hwr : IntKind.i64.wrap ((f.text.size : Int) + (t.size : Int)) = (f.text.size : Int) + (t.size : Int) := by rw [IntKind.wrap_i64]; omega
        by_cases hfull : 16384 < (f.text.size : Int) + (t.size : Int)
        · have HR := Lib.hid (show putV s id t = .error 13 by rw [HRQ.out, if_pos (by omega)])
          go_wp2_with fail
          go_quiet (fail)
          go_wp2_with fail
          refine bodyPost_ret (v := .tuple #[zV, .int .i64 13]) (by simp only [results, Try.results24]; go_simp) rfl (RetS.bad HR.out ?_)
          repeat (first | (with_reducible refine bDrewN (n := _) ?_) | (with_reducible exact HBx.out) | ((with_reducible refine Below.setCell ?_ ?_ _); rotate_left; focus (first | (simp; done) | (simp; omega))) | ((with_reducible refine Below.alloc ?_ ?_ _); rotate_left; focus (first | (simp; done) | (simp; omega))))
        · have HR := Lib.hid (show putV s id t = .ok (putS s x t) by rw [HRQ.out, if_neg (by omega)])
          go_wp2_with fail
          go_quiet (fail)
          obtain ⟨u, hu⟩ : ∃ u, Hid (putS s x t = u) := ⟨_, rfl⟩
          have hu1 : u.files.length ≤ 4398046511104 ∧ u.opn.length ≤ 1954687338268 := by
            rw [← hu.out]
            refine ⟨?_, by show s.opn.length ≤ _; omega⟩
            show (s.files.set _ _).length ≤ _
            rw [List.length_set]; omega
          go_wp2_with fail
          refine (with53_any _ s u w1.heap.size (w.heap.size + 1) _ (HS.out.next (bDrewN HBx.out _)) hu1.1 hu1.2 ?hap1).mono ?_
          case hap1 =>
            intro w6 B nb hnb hb6 hnw
            rw [← hu.out, putS, HK1x.out, HFD.out]
            exact put1_any nb B w1.heap.size (w.heap.size + 1) k t s f w6 hnw (by have := Blk.next (w := wx.drewN _) KP.out hb6; have := this.cell 0; simpa using this) (by have := Blk.next (w := wx.drewN _) KX1.out hb6; have := this.cell 0; simpa using this) HK2x.out (by omega) (by omega)
          rintro e w5 ⟨⟨v', rfl, ho⟩, hb2⟩
          obtain ⟨v0, v1, rfl, o0, o1⟩ := ho
          obtain ⟨D0, e0, rfl, -⟩ := own_form o0
          obtain ⟨D1, e1, rfl, -⟩ := own_form o1
          have HOW := Lib.hid (show OwnS w5 _ _ _ from ⟨_, _, rfl, o0, o1⟩)
          have HB5 := Lib.hid (bNext (bDrewN HBx.out _) hb2)
          have k25 := Blk.next (w := wx.drewN _) KX2.out hb2
          have hz2 := hb2.size
          simp at hz2
          clear z0 z1 z2 z3 z4 g0 g1 g2 g3 g4
          have z0 := k25.cell 0
          have z1 := k25.cell 1
          have z2 := k25.cell 2
          have z3 := k25.cell 3
          have z4 := k25.cell 4
          simp at z0 z1 z2 z3 z4
          have g0 := k25.frozen 0
          have g1 := k25.frozen 1
          have g2 := k25.frozen 2
          have g3 := k25.frozen 3
          have g4 := k25.frozen 4
          have zz5 := k25.lt
          clear hb2 k25 o0 o1 hu1
          go_wp2_with fail
          refine bodyPost_ret (v := .tuple #[smV D0 D1 e0 e1 u, .int .i64 0]) (by simp only [results, Try.results24]; go_simp) rfl (RetS.good (HR.out.trans (by rw [hu.out])) ?_ ?_)
          · refine (HOW.out.stay fun b' hb' _ => ?_).base (by simp; omega)
            simp at hb'
            repeat rw [heap_setCell_other _ _ _ _ (by simp; omega)]
          · repeat (first | (with_reducible exact HB5.out) | ((with_reducible refine Below.setCell ?_ ?_ _); rotate_left; focus (first | (simp; done) | (simp; omega))) | ((with_reducible refine Below.alloc ?_ ?_ _); rotate_left; focus (first | (simp; done) | (simp; omega))))
end Go.Proofs.Ytklpghpfdeojeaa
