/-
  Walks: Use, Close of the program.
-/
import Derived.Test.YtklpghpfdeojeaaUf
namespace Go.Proofs.Ytklpghpfdeojeaa
open Go.RowKit

set_option maxHeartbeats 4000000 in
theorem use_any (v : Value) (s : Sm) (id : Int) (w : World) (hs : SmAt w w.heap.size v s) :
    Calls Try.prog 22 #[v, .int .i64 id] w (RetS (useV s id) w) := by
  obtain ⟨A0, c0, A1, c1, rfl, hcap, h0, h1⟩ := hs
  have HS : Hid (SmAt w w.heap.size (smV A0 A1 c0 c1 s) s) := ⟨A0, c0, A1, c1, rfl, hcap, h0, h1⟩
  have HA := Lib.hid h0
  have HO := Lib.hid h1
  have hfl := h0.1.2
  have hol := h1.1.2
  clear h0 h1 hcap
  cases ha : askV s id true with
  | error er =>
    have HR := Lib.hid (show useV s id = .error er by simp [useV, ha])
    rcases askV_err ha with ⟨rfl, -⟩ | ⟨rfl, -⟩
    · have HA2 := Lib.hid ha
      clear ha
      obtain ⟨W, HWd⟩ : ∃ W, Hid (W = (((w.alloc (.cells #[.slice A0 s.files.length c0, .slice A1 s.opn.length c1, .int .i64 s.inp, .int .i64 s.out, .int .i64 s.nxt] 25)).alloc (.cells #[.int .i64 id] 3)).alloc (.cells #[.slice none 0 0, .slice none 0 0, .int .i64 0, .int .i64 0, .int .i64 0] 25))) := ⟨_, rfl⟩
      have hbW : Below w.heap.size w W := by
        rw [HWd.out]
        exact (Below.alloc (Below.alloc (bAlloc w _) (by simp) _) (by simp; omega) _)
      have hzW : W.heap.size = w.heap.size + 3 := by rw [HWd.out]; simp
      have k0 : Blk W w.heap.size 25 #[.slice A0 s.files.length c0, .slice A1 s.opn.length c1, .int .i64 s.inp, .int .i64 s.out, .int .i64 s.nxt] := by rw [HWd.out]; exact (Blk.alloc (Blk.alloc (Blk.new _ _ _) (.cells #[.int .i64 id] 3)) (.cells #[.slice none 0 0, .slice none 0 0, .int .i64 0, .int .i64 0, .int .i64 0] 25))
      have k1 : Blk W (w.heap.size + 1) 3 #[.int .i64 id] := by
        have h := (Blk.alloc (Blk.new (w.alloc (.cells #[.slice A0 s.files.length c0, .slice A1 s.opn.length c1, .int .i64 s.inp, .int .i64 s.out, .int .i64 s.nxt] 25)) 3 #[.int .i64 id]) (.cells #[.slice none 0 0, .slice none 0 0, .int .i64 0, .int .i64 0, .int .i64 0] 25))
        rw [World.size_alloc] at h
        rw [HWd.out]; exact h
      have k2 : Blk W (w.heap.size + 1 + 1) 25 #[.slice none 0 0, .slice none 0 0, .int .i64 0, .int .i64 0, .int .i64 0] := by
        have h := (Blk.new ((w.alloc (.cells #[.slice A0 s.files.length c0, .slice A1 s.opn.length c1, .int .i64 s.inp, .int .i64 s.out, .int .i64 s.nxt] 25)).alloc (.cells #[.int .i64 id] 3)) 25 #[.slice none 0 0, .slice none 0 0, .int .i64 0, .int .i64 0, .int .i64 0])
        rw [World.size_alloc, World.size_alloc] at h
        rw [HWd.out]; exact h
      have HBW := Lib.hid hbW
      clear hbW
      go_enter Try.func22, Try.ntmps22
      go_wp2_with fail
      rw [← HWd.out]
      refine (opened_bad HA2.out _ _ (HS.out.next HBW.out)).mono ?_
      rintro e w1 ⟨rfl, hb1⟩
      have HB1 := Lib.hid (bNext HBW.out hb1)
      have k01 := k0.next hb1
      have k11 := k1.next hb1
      have k21 := k2.next hb1
      obtain ⟨p0, p1, p2, p3, p4⟩ := smBox k01
      have z0 := k21.cell 0
      have z1 := k21.cell 1
      have z2 := k21.cell 2
      have z3 := k21.cell 3
      have z4 := k21.cell 4
      simp at z0 z1 z2 z3 z4
      have g0 := k21.frozen 0
      have g1 := k21.frozen 1
      have g2 := k21.frozen 2
      have g3 := k21.frozen 3
      have g4 := k21.frozen 4
      have zz := k21.lt
      have hz0 : w.heap.size < w1.heap.size := by omega
      have hz1 : w.heap.size + 1 < w1.heap.size := by omega
      have ck1 := k11.cell 0
      simp at ck1
      clear hb1 k0 k01 k1 k11 k2 k21
      go_wp2_with fail
      refine bodyPost_ret (v := .tuple #[zV, .int .i64 1]) (by simp only [results, Try.results22]; go_simp) rfl (RetS.bad HR.out ?_)
      repeat (first | (with_reducible exact HB1.out) | ((with_reducible refine Below.setCell ?_ ?_ _); rotate_left; focus (first | (simp; done) | (simp; omega))) | ((with_reducible refine Below.alloc ?_ ?_ _); rotate_left; focus (first | (simp; done) | (simp; omega))))
    · have HA2 := Lib.hid ha
      clear ha
      obtain ⟨W, HWd⟩ : ∃ W, Hid (W = (((w.alloc (.cells #[.slice A0 s.files.length c0, .slice A1 s.opn.length c1, .int .i64 s.inp, .int .i64 s.out, .int .i64 s.nxt] 25)).alloc (.cells #[.int .i64 id] 3)).alloc (.cells #[.slice none 0 0, .slice none 0 0, .int .i64 0, .int .i64 0, .int .i64 0] 25))) := ⟨_, rfl⟩
      have hbW : Below w.heap.size w W := by
        rw [HWd.out]
        exact (Below.alloc (Below.alloc (bAlloc w _) (by simp) _) (by simp; omega) _)
      have hzW : W.heap.size = w.heap.size + 3 := by rw [HWd.out]; simp
      have k0 : Blk W w.heap.size 25 #[.slice A0 s.files.length c0, .slice A1 s.opn.length c1, .int .i64 s.inp, .int .i64 s.out, .int .i64 s.nxt] := by rw [HWd.out]; exact (Blk.alloc (Blk.alloc (Blk.new _ _ _) (.cells #[.int .i64 id] 3)) (.cells #[.slice none 0 0, .slice none 0 0, .int .i64 0, .int .i64 0, .int .i64 0] 25))
      have k1 : Blk W (w.heap.size + 1) 3 #[.int .i64 id] := by
        have h := (Blk.alloc (Blk.new (w.alloc (.cells #[.slice A0 s.files.length c0, .slice A1 s.opn.length c1, .int .i64 s.inp, .int .i64 s.out, .int .i64 s.nxt] 25)) 3 #[.int .i64 id]) (.cells #[.slice none 0 0, .slice none 0 0, .int .i64 0, .int .i64 0, .int .i64 0] 25))
        rw [World.size_alloc] at h
        rw [HWd.out]; exact h
      have k2 : Blk W (w.heap.size + 1 + 1) 25 #[.slice none 0 0, .slice none 0 0, .int .i64 0, .int .i64 0, .int .i64 0] := by
        have h := (Blk.new ((w.alloc (.cells #[.slice A0 s.files.length c0, .slice A1 s.opn.length c1, .int .i64 s.inp, .int .i64 s.out, .int .i64 s.nxt] 25)).alloc (.cells #[.int .i64 id] 3)) 25 #[.slice none 0 0, .slice none 0 0, .int .i64 0, .int .i64 0, .int .i64 0])
        rw [World.size_alloc, World.size_alloc] at h
        rw [HWd.out]; exact h
      have HBW := Lib.hid hbW
      clear hbW
      go_enter Try.func22, Try.ntmps22
      go_wp2_with fail
      rw [← HWd.out]
      refine (opened_bad HA2.out _ _ (HS.out.next HBW.out)).mono ?_
      rintro e w1 ⟨rfl, hb1⟩
      have HB1 := Lib.hid (bNext HBW.out hb1)
      have k01 := k0.next hb1
      have k11 := k1.next hb1
      have k21 := k2.next hb1
      obtain ⟨p0, p1, p2, p3, p4⟩ := smBox k01
      have z0 := k21.cell 0
      have z1 := k21.cell 1
      have z2 := k21.cell 2
      have z3 := k21.cell 3
      have z4 := k21.cell 4
      simp at z0 z1 z2 z3 z4
      have g0 := k21.frozen 0
      have g1 := k21.frozen 1
      have g2 := k21.frozen 2
      have g3 := k21.frozen 3
      have g4 := k21.frozen 4
      have zz := k21.lt
      have hz0 : w.heap.size < w1.heap.size := by omega
      have hz1 : w.heap.size + 1 < w1.heap.size := by omega
      have ck1 := k11.cell 0
      simp at ck1
      clear hb1 k0 k01 k1 k11 k2 k21
      go_wp2_with fail
      refine bodyPost_ret (v := .tuple #[zV, .int .i64 4]) (by simp only [results, Try.results22]; go_simp) rfl (RetS.bad HR.out ?_)
      repeat (first | (with_reducible exact HB1.out) | ((with_reducible refine Below.setCell ?_ ?_ _); rotate_left; focus (first | (simp; done) | (simp; omega))) | ((with_reducible refine Below.alloc ?_ ?_ _); rotate_left; focus (first | (simp; done) | (simp; omega))))
  | ok i =>
    obtain ⟨hv, -, hix, x, hx, hid⟩ := askV_ok ha
    have HR := Lib.hid (show useV s id = .ok (useS s x.mode id) by simp [useV, ha, hx])
    have hil := (List.getElem?_eq_some_iff.1 hx).1
    obtain ⟨k, hk1, hk2, hk3, hk4, hk5⟩ := valid_file hv hx
    have hkl := (List.getElem?_eq_some_iff.1 hk2).1
    obtain ⟨hvf, hvo, hvn1, hvn2, -, -⟩ := valid_head hv
    obtain ⟨b, off, x', rfl, hb, hx', hx4⟩ := HO.out.at hil
    rw [hx] at hx'
    injection hx' with hx'
    subst hx'
    obtain ⟨bf, offf, f', rfl, hbf, hf', hf4⟩ := HA.out.at hkl
    rw [hk2] at hf'
    injection hf' with hf'
    obtain ⟨f, hfd⟩ : ∃ f, fileOf s x = f := ⟨_, rfl⟩
    rw [hfd] at hf' hk2 hk3 hk4 hk5
    subst hf'
    have HFD := Lib.hid hfd
    have HX := Lib.hid hx
    have HV := Lib.hid hv
    have HX4 := Lib.hid hx4
    have HF4 := Lib.hid hf4
    have HK1x := Lib.hid hk1
    have HK2x := Lib.hid hk2
    have HK5x := Lib.hid hk5
    clear hk1 hk2 hk3 hk5 hv hx hfd hx4 hf4
    have hili : (i : Int) < (s.opn.length : Int) := by omega
    have hkli : (k : Int) < (s.files.length : Int) := by omega
    have HA2 := Lib.hid ha
    clear ha
    obtain ⟨W, HWd⟩ : ∃ W, Hid (W = (((w.alloc (.cells #[.slice (some ⟨bf, offf, none⟩) s.files.length c0, .slice (some ⟨b, off, none⟩) s.opn.length c1, .int .i64 s.inp, .int .i64 s.out, .int .i64 s.nxt] 25)).alloc (.cells #[.int .i64 id] 3)).alloc (.cells #[.slice none 0 0, .slice none 0 0, .int .i64 0, .int .i64 0, .int .i64 0] 25))) := ⟨_, rfl⟩
    have hbW : Below w.heap.size w W := by
      rw [HWd.out]
      exact (Below.alloc (Below.alloc (bAlloc w _) (by simp) _) (by simp; omega) _)
    have hzW : W.heap.size = w.heap.size + 3 := by rw [HWd.out]; simp
    have k0 : Blk W w.heap.size 25 #[.slice (some ⟨bf, offf, none⟩) s.files.length c0, .slice (some ⟨b, off, none⟩) s.opn.length c1, .int .i64 s.inp, .int .i64 s.out, .int .i64 s.nxt] := by rw [HWd.out]; exact (Blk.alloc (Blk.alloc (Blk.new _ _ _) (.cells #[.int .i64 id] 3)) (.cells #[.slice none 0 0, .slice none 0 0, .int .i64 0, .int .i64 0, .int .i64 0] 25))
    have k1 : Blk W (w.heap.size + 1) 3 #[.int .i64 id] := by
      have h := (Blk.alloc (Blk.new (w.alloc (.cells #[.slice (some ⟨bf, offf, none⟩) s.files.length c0, .slice (some ⟨b, off, none⟩) s.opn.length c1, .int .i64 s.inp, .int .i64 s.out, .int .i64 s.nxt] 25)) 3 #[.int .i64 id]) (.cells #[.slice none 0 0, .slice none 0 0, .int .i64 0, .int .i64 0, .int .i64 0] 25))
      rw [World.size_alloc] at h
      rw [HWd.out]; exact h
    have k2 : Blk W (w.heap.size + 1 + 1) 25 #[.slice none 0 0, .slice none 0 0, .int .i64 0, .int .i64 0, .int .i64 0] := by
      have h := (Blk.new ((w.alloc (.cells #[.slice (some ⟨bf, offf, none⟩) s.files.length c0, .slice (some ⟨b, off, none⟩) s.opn.length c1, .int .i64 s.inp, .int .i64 s.out, .int .i64 s.nxt] 25)).alloc (.cells #[.int .i64 id] 3)) 25 #[.slice none 0 0, .slice none 0 0, .int .i64 0, .int .i64 0, .int .i64 0])
      rw [World.size_alloc, World.size_alloc] at h
      rw [HWd.out]; exact h
    have HBW := Lib.hid hbW
    clear hbW
    go_enter Try.func22, Try.ntmps22
    go_wp2_with fail
    rw [← HWd.out]
    refine (opened_good HA2.out _ _ (HS.out.next HBW.out)).mono ?_
    rintro e w1 ⟨rfl, hb1⟩
    have HB1 := Lib.hid (bNext HBW.out hb1)
    have k01 := k0.next hb1
    have k11 := k1.next hb1
    have k21 := k2.next hb1
    obtain ⟨p0, p1, p2, p3, p4⟩ := smBox k01
    have z0 := k21.cell 0
    have z1 := k21.cell 1
    have z2 := k21.cell 2
    have z3 := k21.cell 3
    have z4 := k21.cell 4
    simp at z0 z1 z2 z3 z4
    have g0 := k21.frozen 0
    have g1 := k21.frozen 1
    have g2 := k21.frozen 2
    have g3 := k21.frozen 3
    have g4 := k21.frozen 4
    have zz := k21.lt
    have hz0 : w.heap.size < w1.heap.size := by omega
    have hz1 : w.heap.size + 1 < w1.heap.size := by omega
    have ck1 := k11.cell 0
    simp at ck1
    clear hb1 k0 k01 k1 k2
    have HBn := Lib.hid (HB1.out.alloc (by omega) (.cells #[.int .i64 (i : Int)] 3))
    obtain ⟨u, hu⟩ : ∃ u, Hid (useS s x.mode id = u) := ⟨_, rfl⟩
    have hux : u.files = s.files ∧ u.opn = s.opn := by rw [← hu.out]; unfold useS; split <;> exact ⟨rfl, rfl⟩
    have HUX := Lib.hid hux
    clear hux
    go_wp2_with fail
    refine (with51_any _ s u w1.heap.size (w.heap.size + 1) _ (HS.out.next HBn.out) (by rw [HUX.out.1]; omega) (by rw [HUX.out.2]; omega) ?hap1).mono ?_
    case hap1 =>
      intro w6 B nb hnb hb6 hnw
      rw [← hu.out]
      exact use1_any nb B w1.heap.size (w.heap.size + 1) i id s x w6 hnw (by have := (Blk.new w1 3 #[.int .i64 (i : Int)]).next hb6; have := this.cell 0; simpa using this) (by have := (k11.alloc (.cells #[.int .i64 (i : Int)] 3)).next hb6; have := this.cell 0; simpa using this) HX.out (by omega)
    rintro e w2 ⟨⟨v', rfl, ho⟩, hb2⟩
    obtain ⟨v0, v1, rfl, o0, o1⟩ := ho
    obtain ⟨D0, e0, rfl, -⟩ := own_form o0
    obtain ⟨D1, e1, rfl, -⟩ := own_form o1
    have HOW := Lib.hid (show OwnS w2 _ _ _ from ⟨_, _, rfl, o0, o1⟩)
    have HB2 := Lib.hid (bNext HBn.out hb2)
    have k22 := (k21.alloc (.cells #[.int .i64 (i : Int)] 3)).next hb2
    have hz2 := hb2.size
    simp at hz2
    have z0 := k22.cell 0
    have z1 := k22.cell 1
    have z2 := k22.cell 2
    have z3 := k22.cell 3
    have z4 := k22.cell 4
    simp at z0 z1 z2 z3 z4
    have g0 := k22.frozen 0
    have g1 := k22.frozen 1
    have g2 := k22.frozen 2
    have g3 := k22.frozen 3
    have g4 := k22.frozen 4
    have zz := k22.lt
    clear hb2 k22 o0 o1
    go_wp2_with fail
    refine bodyPost_ret (v := .tuple #[smV D0 D1 e0 e1 u, .int .i64 0]) (by simp only [results, Try.results22]; go_simp) rfl (RetS.good (HR.out.trans (by rw [hu.out])) ?_ ?_)
    · refine (HOW.out.stay fun b' hb' _ => ?_).base (by simp; omega)
      simp at hb'
      repeat rw [heap_setCell_other _ _ _ _ (by simp; omega)]
    · repeat (first | (with_reducible exact HB2.out) | ((with_reducible refine Below.setCell ?_ ?_ _); rotate_left; focus (first | (simp; done) | (simp; omega))) | ((with_reducible refine Below.alloc ?_ ?_ _); rotate_left; focus (first | (simp; done) | (simp; omega))))

set_option maxHeartbeats 4000000 in
theorem close_any (v : Value) (s : Sm) (id : Int) (w : World) (hs : SmAt w w.heap.size v s) :
    Calls Try.prog 23 #[v, .int .i64 id] w (RetS (closeV s id) w) := by
  obtain ⟨A0, c0, A1, c1, rfl, hcap, h0, h1⟩ := hs
  have HS : Hid (SmAt w w.heap.size (smV A0 A1 c0 c1 s) s) := ⟨A0, c0, A1, c1, rfl, hcap, h0, h1⟩
  have HA := Lib.hid h0
  have HO := Lib.hid h1
  have hfl := h0.1.2
  have hol := h1.1.2
  clear h0 h1 hcap
  cases ha : askV s id true with
  | error er =>
    have HR := Lib.hid (show closeV s id = .error er by simp [closeV, ha])
    rcases askV_er ha with rfl | rfl
    · have HA2 := Lib.hid ha
      clear ha
      obtain ⟨W, HWd⟩ : ∃ W, Hid (W = (((w.alloc (.cells #[.slice A0 s.files.length c0, .slice A1 s.opn.length c1, .int .i64 s.inp, .int .i64 s.out, .int .i64 s.nxt] 25)).alloc (.cells #[.int .i64 id] 3)).alloc (.cells #[.slice none 0 0, .slice none 0 0, .int .i64 0, .int .i64 0, .int .i64 0] 25))) := ⟨_, rfl⟩
      have hbW : Below w.heap.size w W := by
        rw [HWd.out]
        exact (Below.alloc (Below.alloc (bAlloc w _) (by simp) _) (by simp; omega) _)
      have hzW : W.heap.size = w.heap.size + 3 := by rw [HWd.out]; simp
      have k0 : Blk W w.heap.size 25 #[.slice A0 s.files.length c0, .slice A1 s.opn.length c1, .int .i64 s.inp, .int .i64 s.out, .int .i64 s.nxt] := by rw [HWd.out]; exact (Blk.alloc (Blk.alloc (Blk.new _ _ _) (.cells #[.int .i64 id] 3)) (.cells #[.slice none 0 0, .slice none 0 0, .int .i64 0, .int .i64 0, .int .i64 0] 25))
      have k1 : Blk W (w.heap.size + 1) 3 #[.int .i64 id] := by
        have h := (Blk.alloc (Blk.new (w.alloc (.cells #[.slice A0 s.files.length c0, .slice A1 s.opn.length c1, .int .i64 s.inp, .int .i64 s.out, .int .i64 s.nxt] 25)) 3 #[.int .i64 id]) (.cells #[.slice none 0 0, .slice none 0 0, .int .i64 0, .int .i64 0, .int .i64 0] 25))
        rw [World.size_alloc] at h
        rw [HWd.out]; exact h
      have k2 : Blk W (w.heap.size + 1 + 1) 25 #[.slice none 0 0, .slice none 0 0, .int .i64 0, .int .i64 0, .int .i64 0] := by
        have h := (Blk.new ((w.alloc (.cells #[.slice A0 s.files.length c0, .slice A1 s.opn.length c1, .int .i64 s.inp, .int .i64 s.out, .int .i64 s.nxt] 25)).alloc (.cells #[.int .i64 id] 3)) 25 #[.slice none 0 0, .slice none 0 0, .int .i64 0, .int .i64 0, .int .i64 0])
        rw [World.size_alloc, World.size_alloc] at h
        rw [HWd.out]; exact h
      have HBW := Lib.hid hbW
      clear hbW
      go_enter Try.func23, Try.ntmps23
      go_wp2_with fail
      rw [← HWd.out]
      refine (opened_bad HA2.out _ _ (HS.out.next HBW.out)).mono ?_
      rintro e w1 ⟨rfl, hb1⟩
      have HB1 := Lib.hid (bNext HBW.out hb1)
      have k01 := k0.next hb1
      have k11 := k1.next hb1
      have k21 := k2.next hb1
      obtain ⟨p0, p1, p2, p3, p4⟩ := smBox k01
      have z0 := k21.cell 0
      have z1 := k21.cell 1
      have z2 := k21.cell 2
      have z3 := k21.cell 3
      have z4 := k21.cell 4
      simp at z0 z1 z2 z3 z4
      have g0 := k21.frozen 0
      have g1 := k21.frozen 1
      have g2 := k21.frozen 2
      have g3 := k21.frozen 3
      have g4 := k21.frozen 4
      have zz := k21.lt
      have hz0 : w.heap.size < w1.heap.size := by omega
      have hz1 : w.heap.size + 1 < w1.heap.size := by omega
      have ck1 := k11.cell 0
      simp at ck1
      clear hb1 k0 k01 k1 k11 k2 k21
      go_wp2_with fail
      refine bodyPost_ret (v := .tuple #[zV, .int .i64 1]) (by simp only [results, Try.results23]; go_simp) rfl (RetS.bad HR.out ?_)
      repeat (first | (with_reducible exact HB1.out) | ((with_reducible refine Below.setCell ?_ ?_ _); rotate_left; focus (first | (simp; done) | (simp; omega))) | ((with_reducible refine Below.alloc ?_ ?_ _); rotate_left; focus (first | (simp; done) | (simp; omega))))
    · have HA2 := Lib.hid ha
      clear ha
      obtain ⟨W, HWd⟩ : ∃ W, Hid (W = (((w.alloc (.cells #[.slice A0 s.files.length c0, .slice A1 s.opn.length c1, .int .i64 s.inp, .int .i64 s.out, .int .i64 s.nxt] 25)).alloc (.cells #[.int .i64 id] 3)).alloc (.cells #[.slice none 0 0, .slice none 0 0, .int .i64 0, .int .i64 0, .int .i64 0] 25))) := ⟨_, rfl⟩
      have hbW : Below w.heap.size w W := by
        rw [HWd.out]
        exact (Below.alloc (Below.alloc (bAlloc w _) (by simp) _) (by simp; omega) _)
      have hzW : W.heap.size = w.heap.size + 3 := by rw [HWd.out]; simp
      have k0 : Blk W w.heap.size 25 #[.slice A0 s.files.length c0, .slice A1 s.opn.length c1, .int .i64 s.inp, .int .i64 s.out, .int .i64 s.nxt] := by rw [HWd.out]; exact (Blk.alloc (Blk.alloc (Blk.new _ _ _) (.cells #[.int .i64 id] 3)) (.cells #[.slice none 0 0, .slice none 0 0, .int .i64 0, .int .i64 0, .int .i64 0] 25))
      have k1 : Blk W (w.heap.size + 1) 3 #[.int .i64 id] := by
        have h := (Blk.alloc (Blk.new (w.alloc (.cells #[.slice A0 s.files.length c0, .slice A1 s.opn.length c1, .int .i64 s.inp, .int .i64 s.out, .int .i64 s.nxt] 25)) 3 #[.int .i64 id]) (.cells #[.slice none 0 0, .slice none 0 0, .int .i64 0, .int .i64 0, .int .i64 0] 25))
        rw [World.size_alloc] at h
        rw [HWd.out]; exact h
      have k2 : Blk W (w.heap.size + 1 + 1) 25 #[.slice none 0 0, .slice none 0 0, .int .i64 0, .int .i64 0, .int .i64 0] := by
        have h := (Blk.new ((w.alloc (.cells #[.slice A0 s.files.length c0, .slice A1 s.opn.length c1, .int .i64 s.inp, .int .i64 s.out, .int .i64 s.nxt] 25)).alloc (.cells #[.int .i64 id] 3)) 25 #[.slice none 0 0, .slice none 0 0, .int .i64 0, .int .i64 0, .int .i64 0])
        rw [World.size_alloc, World.size_alloc] at h
        rw [HWd.out]; exact h
      have HBW := Lib.hid hbW
      clear hbW
      go_enter Try.func23, Try.ntmps23
      go_wp2_with fail
      rw [← HWd.out]
      refine (opened_bad HA2.out _ _ (HS.out.next HBW.out)).mono ?_
      rintro e w1 ⟨rfl, hb1⟩
      have HB1 := Lib.hid (bNext HBW.out hb1)
      have k01 := k0.next hb1
      have k11 := k1.next hb1
      have k21 := k2.next hb1
      obtain ⟨p0, p1, p2, p3, p4⟩ := smBox k01
      have z0 := k21.cell 0
      have z1 := k21.cell 1
      have z2 := k21.cell 2
      have z3 := k21.cell 3
      have z4 := k21.cell 4
      simp at z0 z1 z2 z3 z4
      have g0 := k21.frozen 0
      have g1 := k21.frozen 1
      have g2 := k21.frozen 2
      have g3 := k21.frozen 3
      have g4 := k21.frozen 4
      have zz := k21.lt
      have hz0 : w.heap.size < w1.heap.size := by omega
      have hz1 : w.heap.size + 1 < w1.heap.size := by omega
      have ck1 := k11.cell 0
      simp at ck1
      clear hb1 k0 k01 k1 k11 k2 k21
      go_wp2_with fail
      refine bodyPost_ret (v := .tuple #[zV, .int .i64 4]) (by simp only [results, Try.results23]; go_simp) rfl (RetS.bad HR.out ?_)
      repeat (first | (with_reducible exact HB1.out) | ((with_reducible refine Below.setCell ?_ ?_ _); rotate_left; focus (first | (simp; done) | (simp; omega))) | ((with_reducible refine Below.alloc ?_ ?_ _); rotate_left; focus (first | (simp; done) | (simp; omega))))
  | ok i =>
    obtain ⟨hv, -, hix, x, hx, hid⟩ := askV_ok ha
    have HRC := Lib.hid (show closeV s id = if id < 2 then .error 5 else .ok (closeS s i id) by simp [closeV, ha])
    have hil := (List.getElem?_eq_some_iff.1 hx).1
    obtain ⟨k, hk1, hk2, hk3, hk4, hk5⟩ := valid_file hv hx
    have hkl := (List.getElem?_eq_some_iff.1 hk2).1
    obtain ⟨hvf, hvo, hvn1, hvn2, -, -⟩ := valid_head hv
    obtain ⟨b, off, x', rfl, hb, hx', hx4⟩ := HO.out.at hil
    rw [hx] at hx'
    injection hx' with hx'
    subst hx'
    obtain ⟨bf, offf, f', rfl, hbf, hf', hf4⟩ := HA.out.at hkl
    rw [hk2] at hf'
    injection hf' with hf'
    obtain ⟨f, hfd⟩ : ∃ f, fileOf s x = f := ⟨_, rfl⟩
    rw [hfd] at hf' hk2 hk3 hk4 hk5
    subst hf'
    have HFD := Lib.hid hfd
    have HX := Lib.hid hx
    have HV := Lib.hid hv
    have HX4 := Lib.hid hx4
    have HF4 := Lib.hid hf4
    have HK1x := Lib.hid hk1
    have HK2x := Lib.hid hk2
    have HK5x := Lib.hid hk5
    clear hk1 hk2 hk3 hk5 hv hx hfd hx4 hf4
    have hili : (i : Int) < (s.opn.length : Int) := by omega
    have hkli : (k : Int) < (s.files.length : Int) := by omega
    have HA2 := Lib.hid ha
    clear ha
    obtain ⟨W, HWd⟩ : ∃ W, Hid (W = (((w.alloc (.cells #[.slice (some ⟨bf, offf, none⟩) s.files.length c0, .slice (some ⟨b, off, none⟩) s.opn.length c1, .int .i64 s.inp, .int .i64 s.out, .int .i64 s.nxt] 25)).alloc (.cells #[.int .i64 id] 3)).alloc (.cells #[.slice none 0 0, .slice none 0 0, .int .i64 0, .int .i64 0, .int .i64 0] 25))) := ⟨_, rfl⟩
    have hbW : Below w.heap.size w W := by
      rw [HWd.out]
      exact (Below.alloc (Below.alloc (bAlloc w _) (by simp) _) (by simp; omega) _)
    have hzW : W.heap.size = w.heap.size + 3 := by rw [HWd.out]; simp
    have k0 : Blk W w.heap.size 25 #[.slice (some ⟨bf, offf, none⟩) s.files.length c0, .slice (some ⟨b, off, none⟩) s.opn.length c1, .int .i64 s.inp, .int .i64 s.out, .int .i64 s.nxt] := by rw [HWd.out]; exact (Blk.alloc (Blk.alloc (Blk.new _ _ _) (.cells #[.int .i64 id] 3)) (.cells #[.slice none 0 0, .slice none 0 0, .int .i64 0, .int .i64 0, .int .i64 0] 25))
    have k1 : Blk W (w.heap.size + 1) 3 #[.int .i64 id] := by
      have h := (Blk.alloc (Blk.new (w.alloc (.cells #[.slice (some ⟨bf, offf, none⟩) s.files.length c0, .slice (some ⟨b, off, none⟩) s.opn.length c1, .int .i64 s.inp, .int .i64 s.out, .int .i64 s.nxt] 25)) 3 #[.int .i64 id]) (.cells #[.slice none 0 0, .slice none 0 0, .int .i64 0, .int .i64 0, .int .i64 0] 25))
      rw [World.size_alloc] at h
      rw [HWd.out]; exact h
    have k2 : Blk W (w.heap.size + 1 + 1) 25 #[.slice none 0 0, .slice none 0 0, .int .i64 0, .int .i64 0, .int .i64 0] := by
      have h := (Blk.new ((w.alloc (.cells #[.slice (some ⟨bf, offf, none⟩) s.files.length c0, .slice (some ⟨b, off, none⟩) s.opn.length c1, .int .i64 s.inp, .int .i64 s.out, .int .i64 s.nxt] 25)).alloc (.cells #[.int .i64 id] 3)) 25 #[.slice none 0 0, .slice none 0 0, .int .i64 0, .int .i64 0, .int .i64 0])
      rw [World.size_alloc, World.size_alloc] at h
      rw [HWd.out]; exact h
    have HBW := Lib.hid hbW
    clear hbW
    go_enter Try.func23, Try.ntmps23
    go_wp2_with fail
    rw [← HWd.out]
    refine (opened_good HA2.out _ _ (HS.out.next HBW.out)).mono ?_
    rintro e w1 ⟨rfl, hb1⟩
    have HB1 := Lib.hid (bNext HBW.out hb1)
    have k01 := k0.next hb1
    have k11 := k1.next hb1
    have k21 := k2.next hb1
    obtain ⟨p0, p1, p2, p3, p4⟩ := smBox k01
    have z0 := k21.cell 0
    have z1 := k21.cell 1
    have z2 := k21.cell 2
    have z3 := k21.cell 3
    have z4 := k21.cell 4
    simp at z0 z1 z2 z3 z4
    have g0 := k21.frozen 0
    have g1 := k21.frozen 1
    have g2 := k21.frozen 2
    have g3 := k21.frozen 3
    have g4 := k21.frozen 4
    have zz := k21.lt
    have hz0 : w.heap.size < w1.heap.size := by omega
    have hz1 : w.heap.size + 1 < w1.heap.size := by omega
    have ck1 := k11.cell 0
    simp at ck1
    clear hb1 k0 k01 k1 k2
    have HBn := Lib.hid (HB1.out.alloc (by omega) (.cells #[.int .i64 (i : Int)] 3))
    clear hid
    by_cases hid2 : id < 2
    · have HR := Lib.hid (show closeV s id = .error 5 by rw [HRC.out, if_pos hid2])
      go_wp2_with fail
      refine bodyPost_ret (v := .tuple #[zV, .int .i64 5]) (by simp only [results, Try.results23]; go_simp) rfl (RetS.bad HR.out ?_)
      repeat (first | (with_reducible exact HB1.out) | ((with_reducible refine Below.setCell ?_ ?_ _); rotate_left; focus (first | (simp; done) | (simp; omega))) | ((with_reducible refine Below.alloc ?_ ?_ _); rotate_left; focus (first | (simp; done) | (simp; omega))))
    · have HR := Lib.hid (show closeV s id = .ok (closeS s i id) by rw [HRC.out, if_neg hid2])
      go_wp2_with fail
      obtain ⟨u, hu⟩ : ∃ u, Hid (closeS s i id = u) := ⟨_, rfl⟩
      have hu1 : u.files.length ≤ 4398046511104 ∧ u.opn.length ≤ 1954687338268 := by
        rw [← hu.out]
        refine ⟨by show s.files.length ≤ _; omega, ?_⟩
        show (s.opn.eraseIdx i).length ≤ _
        have := List.length_eraseIdx_le s.opn i
        omega
      refine (with52_any _ s u w1.heap.size (w.heap.size + 1) _ (HS.out.next HBn.out) hu1.1 hu1.2 ?hap1).mono ?_
      case hap1 =>
        intro w6 B nb hnb hb6 hnw
        simp at hnb
        rw [← hu.out]
        exact close1_any nb B w1.heap.size (w.heap.size + 1) i id s w6 hnw (by omega) (by omega) (by have := (Blk.new w1 3 #[.int .i64 (i : Int)]).next hb6; have := this.cell 0; simpa using this) (by have := (k11.alloc (.cells #[.int .i64 (i : Int)] 3)).next hb6; have := this.cell 0; simpa using this) (by omega) (by omega)
      rintro e w2 ⟨⟨v', rfl, ho⟩, hb2⟩
      obtain ⟨v0, v1, rfl, o0, o1⟩ := ho
      obtain ⟨D0, e0, rfl, -⟩ := own_form o0
      obtain ⟨D1, e1, rfl, -⟩ := own_form o1
      have HOW := Lib.hid (show OwnS w2 _ _ _ from ⟨_, _, rfl, o0, o1⟩)
      have HB2 := Lib.hid (bNext HBn.out hb2)
      have k22 := (k21.alloc (.cells #[.int .i64 (i : Int)] 3)).next hb2
      have hz2 := hb2.size
      simp at hz2
      have z0 := k22.cell 0
      have z1 := k22.cell 1
      have z2 := k22.cell 2
      have z3 := k22.cell 3
      have z4 := k22.cell 4
      simp at z0 z1 z2 z3 z4
      have g0 := k22.frozen 0
      have g1 := k22.frozen 1
      have g2 := k22.frozen 2
      have g3 := k22.frozen 3
      have g4 := k22.frozen 4
      have zz := k22.lt
      clear hb2 k22 o0 o1
      clear hu1
      go_wp2_with fail
      refine bodyPost_ret (v := .tuple #[smV D0 D1 e0 e1 u, .int .i64 0]) (by simp only [results, Try.results23]; go_simp) rfl (RetS.good (HR.out.trans (by rw [hu.out])) ?_ ?_)
      · refine (HOW.out.stay fun b' hb' _ => ?_).base (by simp; omega)
        simp at hb'
        repeat rw [heap_setCell_other _ _ _ _ (by simp; omega)]
      · repeat (first | (with_reducible exact HB2.out) | ((with_reducible refine Below.setCell ?_ ?_ _); rotate_left; focus (first | (simp; done) | (simp; omega))) | ((with_reducible refine Below.alloc ?_ ?_ _); rotate_left; focus (first | (simp; done) | (simp; omega))))
end Go.Proofs.Ytklpghpfdeojeaa
