/-
  Walks: Get and Peek of the program.
-/
import Derived.Test.YtklpghpfdeojeaaUb
namespace Go.Proofs.Ytklpghpfdeojeaa
open Go.RowKit

theorem nempty_of {t : ByteArray} (h : 0 < t.size) : t.toList.isEmpty = false := by
  cases hl : t.toList.isEmpty
  · rfl
  · exfalso
    rw [List.isEmpty_iff] at hl
    have h2 : t.toList.length = t.size := by rw [ByteArray.toList_eq, Array.length_toList]; rfl
    rw [hl] at h2
    simp at h2
    omega
theorem empty_of {t : ByteArray} (h : ¬ 0 < t.size) : t.toList.isEmpty = true := by
  have h2 : t.toList.length = t.size := by rw [ByteArray.toList_eq, Array.length_toList]; rfl
  rw [List.isEmpty_iff]
  exact List.eq_nil_of_length_eq_zero (by omega)

set_option maxHeartbeats 4000000 in
theorem get_any (v : Value) (s : Sm) (id : Int) (w : World) (hs : SmAt w w.heap.size v s) :
    Calls Try.prog 19 #[v, .int .i64 id] w (RetG (getV s id) w) := by
  obtain ⟨A0, c0, A1, c1, rfl, hcap, h0, h1⟩ := hs
  have HS : Hid (SmAt w w.heap.size (smV A0 A1 c0 c1 s) s) := ⟨A0, c0, A1, c1, rfl, hcap, h0, h1⟩
  have HA := Lib.hid h0
  have HO := Lib.hid h1
  have hfl := h0.1.2
  have hol := h1.1.2
  clear h0 h1 hcap
  cases ha : readV s id true with
  | error er =>
    have HR := Lib.hid (show getV s id = .error er by simp [getV, ha])
    rcases readV_er ha with rfl | rfl | rfl
    · have HA2 := Lib.hid ha
      clear ha
      obtain ⟨W, HWd⟩ : ∃ W, Hid (W = (((w.alloc (.cells #[.slice A0 s.files.length c0, .slice A1 s.opn.length c1, .int .i64 s.inp, .int .i64 s.out, .int .i64 s.nxt] 25)).alloc (.cells #[.slice none 0 0, .slice none 0 0, .int .i64 0, .int .i64 0, .int .i64 0] 25)).alloc (.cells #[.int .i64 0] 3))) := ⟨_, rfl⟩
      have hbW : Below w.heap.size w W := by
        rw [HWd.out]
        exact (Below.alloc (Below.alloc (bAlloc w _) (by simp) _) (by simp; omega) _)
      have hzW : W.heap.size = w.heap.size + 3 := by rw [HWd.out]; simp
      have k0 : Blk W w.heap.size 25 #[.slice A0 s.files.length c0, .slice A1 s.opn.length c1, .int .i64 s.inp, .int .i64 s.out, .int .i64 s.nxt] := by rw [HWd.out]; exact (Blk.alloc (Blk.alloc (Blk.new _ _ _) (.cells #[.slice none 0 0, .slice none 0 0, .int .i64 0, .int .i64 0, .int .i64 0] 25)) (.cells #[.int .i64 0] 3))
      have k1 : Blk W (w.heap.size + 1) 25 #[.slice none 0 0, .slice none 0 0, .int .i64 0, .int .i64 0, .int .i64 0] := by
        have h := (Blk.alloc (Blk.new (w.alloc (.cells #[.slice A0 s.files.length c0, .slice A1 s.opn.length c1, .int .i64 s.inp, .int .i64 s.out, .int .i64 s.nxt] 25)) 25 #[.slice none 0 0, .slice none 0 0, .int .i64 0, .int .i64 0, .int .i64 0]) (.cells #[.int .i64 0] 3))
        rw [World.size_alloc] at h
        rw [HWd.out]; exact h
      have k2 : Blk W (w.heap.size + 1 + 1) 3 #[.int .i64 0] := by
        have h := (Blk.new ((w.alloc (.cells #[.slice A0 s.files.length c0, .slice A1 s.opn.length c1, .int .i64 s.inp, .int .i64 s.out, .int .i64 s.nxt] 25)).alloc (.cells #[.slice none 0 0, .slice none 0 0, .int .i64 0, .int .i64 0, .int .i64 0] 25)) 3 #[.int .i64 0])
        rw [World.size_alloc, World.size_alloc] at h
        rw [HWd.out]; exact h
      have HBW := Lib.hid hbW
      clear hbW
      go_enter Try.func19, Try.ntmps19
      go_wp2_with fail
      rw [← HWd.out]
      refine (readable_bad HA2.out _ _ (HS.out.next HBW.out)).mono ?_
      rintro e w1 ⟨rfl, hb1⟩
      have HB1 := Lib.hid (bNext HBW.out hb1)
      have k01 := k0.next hb1
      have k11 := k1.next hb1
      have k21 := k2.next hb1
      obtain ⟨p0, p1, p2, p3, p4⟩ := smBox k01
      have z0 := k11.cell 0
      have z1 := k11.cell 1
      have z2 := k11.cell 2
      have z3 := k11.cell 3
      have z4 := k11.cell 4
      simp at z0 z1 z2 z3 z4
      have g0 := k11.frozen 0
      have g1 := k11.frozen 1
      have g2 := k11.frozen 2
      have g3 := k11.frozen 3
      have g4 := k11.frozen 4
      have zz := k11.lt
      have gc := k21.frozen 0
      have zc := k21.lt
      have hz0 : w.heap.size < w1.heap.size := by omega
      have hz1 : w.heap.size + 1 < w1.heap.size := by omega
      have ck2 := k21.cell 0
      simp at ck2
      clear hb1 k0 k01 k1 k11 k2 k21
      go_wp2_with fail
      refine bodyPost_ret (v := .tuple #[zV, .int .i64 0, .int .i64 1]) (by simp only [results, Try.results19]; go_simp) rfl (RetG.bad HR.out ?_)
      repeat (first | (with_reducible exact HB1.out) | (with_reducible refine bDrewN (n := 1) ?_) | ((with_reducible refine Below.setCell ?_ ?_ _); rotate_left; focus (first | (simp; done) | (simp; omega))) | ((with_reducible refine Below.alloc ?_ ?_ _); rotate_left; focus (first | (simp; done) | (simp; omega))))
    · have HA2 := Lib.hid ha
      clear ha
      obtain ⟨W, HWd⟩ : ∃ W, Hid (W = (((w.alloc (.cells #[.slice A0 s.files.length c0, .slice A1 s.opn.length c1, .int .i64 s.inp, .int .i64 s.out, .int .i64 s.nxt] 25)).alloc (.cells #[.slice none 0 0, .slice none 0 0, .int .i64 0, .int .i64 0, .int .i64 0] 25)).alloc (.cells #[.int .i64 0] 3))) := ⟨_, rfl⟩
      have hbW : Below w.heap.size w W := by
        rw [HWd.out]
        exact (Below.alloc (Below.alloc (bAlloc w _) (by simp) _) (by simp; omega) _)
      have hzW : W.heap.size = w.heap.size + 3 := by rw [HWd.out]; simp
      have k0 : Blk W w.heap.size 25 #[.slice A0 s.files.length c0, .slice A1 s.opn.length c1, .int .i64 s.inp, .int .i64 s.out, .int .i64 s.nxt] := by rw [HWd.out]; exact (Blk.alloc (Blk.alloc (Blk.new _ _ _) (.cells #[.slice none 0 0, .slice none 0 0, .int .i64 0, .int .i64 0, .int .i64 0] 25)) (.cells #[.int .i64 0] 3))
      have k1 : Blk W (w.heap.size + 1) 25 #[.slice none 0 0, .slice none 0 0, .int .i64 0, .int .i64 0, .int .i64 0] := by
        have h := (Blk.alloc (Blk.new (w.alloc (.cells #[.slice A0 s.files.length c0, .slice A1 s.opn.length c1, .int .i64 s.inp, .int .i64 s.out, .int .i64 s.nxt] 25)) 25 #[.slice none 0 0, .slice none 0 0, .int .i64 0, .int .i64 0, .int .i64 0]) (.cells #[.int .i64 0] 3))
        rw [World.size_alloc] at h
        rw [HWd.out]; exact h
      have k2 : Blk W (w.heap.size + 1 + 1) 3 #[.int .i64 0] := by
        have h := (Blk.new ((w.alloc (.cells #[.slice A0 s.files.length c0, .slice A1 s.opn.length c1, .int .i64 s.inp, .int .i64 s.out, .int .i64 s.nxt] 25)).alloc (.cells #[.slice none 0 0, .slice none 0 0, .int .i64 0, .int .i64 0, .int .i64 0] 25)) 3 #[.int .i64 0])
        rw [World.size_alloc, World.size_alloc] at h
        rw [HWd.out]; exact h
      have HBW := Lib.hid hbW
      clear hbW
      go_enter Try.func19, Try.ntmps19
      go_wp2_with fail
      rw [← HWd.out]
      refine (readable_bad HA2.out _ _ (HS.out.next HBW.out)).mono ?_
      rintro e w1 ⟨rfl, hb1⟩
      have HB1 := Lib.hid (bNext HBW.out hb1)
      have k01 := k0.next hb1
      have k11 := k1.next hb1
      have k21 := k2.next hb1
      obtain ⟨p0, p1, p2, p3, p4⟩ := smBox k01
      have z0 := k11.cell 0
      have z1 := k11.cell 1
      have z2 := k11.cell 2
      have z3 := k11.cell 3
      have z4 := k11.cell 4
      simp at z0 z1 z2 z3 z4
      have g0 := k11.frozen 0
      have g1 := k11.frozen 1
      have g2 := k11.frozen 2
      have g3 := k11.frozen 3
      have g4 := k11.frozen 4
      have zz := k11.lt
      have gc := k21.frozen 0
      have zc := k21.lt
      have hz0 : w.heap.size < w1.heap.size := by omega
      have hz1 : w.heap.size + 1 < w1.heap.size := by omega
      have ck2 := k21.cell 0
      simp at ck2
      clear hb1 k0 k01 k1 k11 k2 k21
      go_wp2_with fail
      refine bodyPost_ret (v := .tuple #[zV, .int .i64 0, .int .i64 4]) (by simp only [results, Try.results19]; go_simp) rfl (RetG.bad HR.out ?_)
      repeat (first | (with_reducible exact HB1.out) | (with_reducible refine bDrewN (n := 1) ?_) | ((with_reducible refine Below.setCell ?_ ?_ _); rotate_left; focus (first | (simp; done) | (simp; omega))) | ((with_reducible refine Below.alloc ?_ ?_ _); rotate_left; focus (first | (simp; done) | (simp; omega))))
    · have HA2 := Lib.hid ha
      clear ha
      obtain ⟨W, HWd⟩ : ∃ W, Hid (W = (((w.alloc (.cells #[.slice A0 s.files.length c0, .slice A1 s.opn.length c1, .int .i64 s.inp, .int .i64 s.out, .int .i64 s.nxt] 25)).alloc (.cells #[.slice none 0 0, .slice none 0 0, .int .i64 0, .int .i64 0, .int .i64 0] 25)).alloc (.cells #[.int .i64 0] 3))) := ⟨_, rfl⟩
      have hbW : Below w.heap.size w W := by
        rw [HWd.out]
        exact (Below.alloc (Below.alloc (bAlloc w _) (by simp) _) (by simp; omega) _)
      have hzW : W.heap.size = w.heap.size + 3 := by rw [HWd.out]; simp
      have k0 : Blk W w.heap.size 25 #[.slice A0 s.files.length c0, .slice A1 s.opn.length c1, .int .i64 s.inp, .int .i64 s.out, .int .i64 s.nxt] := by rw [HWd.out]; exact (Blk.alloc (Blk.alloc (Blk.new _ _ _) (.cells #[.slice none 0 0, .slice none 0 0, .int .i64 0, .int .i64 0, .int .i64 0] 25)) (.cells #[.int .i64 0] 3))
      have k1 : Blk W (w.heap.size + 1) 25 #[.slice none 0 0, .slice none 0 0, .int .i64 0, .int .i64 0, .int .i64 0] := by
        have h := (Blk.alloc (Blk.new (w.alloc (.cells #[.slice A0 s.files.length c0, .slice A1 s.opn.length c1, .int .i64 s.inp, .int .i64 s.out, .int .i64 s.nxt] 25)) 25 #[.slice none 0 0, .slice none 0 0, .int .i64 0, .int .i64 0, .int .i64 0]) (.cells #[.int .i64 0] 3))
        rw [World.size_alloc] at h
        rw [HWd.out]; exact h
      have k2 : Blk W (w.heap.size + 1 + 1) 3 #[.int .i64 0] := by
        have h := (Blk.new ((w.alloc (.cells #[.slice A0 s.files.length c0, .slice A1 s.opn.length c1, .int .i64 s.inp, .int .i64 s.out, .int .i64 s.nxt] 25)).alloc (.cells #[.slice none 0 0, .slice none 0 0, .int .i64 0, .int .i64 0, .int .i64 0] 25)) 3 #[.int .i64 0])
        rw [World.size_alloc, World.size_alloc] at h
        rw [HWd.out]; exact h
      have HBW := Lib.hid hbW
      clear hbW
      go_enter Try.func19, Try.ntmps19
      go_wp2_with fail
      rw [← HWd.out]
      refine (readable_bad HA2.out _ _ (HS.out.next HBW.out)).mono ?_
      rintro e w1 ⟨rfl, hb1⟩
      have HB1 := Lib.hid (bNext HBW.out hb1)
      have k01 := k0.next hb1
      have k11 := k1.next hb1
      have k21 := k2.next hb1
      obtain ⟨p0, p1, p2, p3, p4⟩ := smBox k01
      have z0 := k11.cell 0
      have z1 := k11.cell 1
      have z2 := k11.cell 2
      have z3 := k11.cell 3
      have z4 := k11.cell 4
      simp at z0 z1 z2 z3 z4
      have g0 := k11.frozen 0
      have g1 := k11.frozen 1
      have g2 := k11.frozen 2
      have g3 := k11.frozen 3
      have g4 := k11.frozen 4
      have zz := k11.lt
      have gc := k21.frozen 0
      have zc := k21.lt
      have hz0 : w.heap.size < w1.heap.size := by omega
      have hz1 : w.heap.size + 1 < w1.heap.size := by omega
      have ck2 := k21.cell 0
      simp at ck2
      clear hb1 k0 k01 k1 k11 k2 k21
      go_wp2_with fail
      refine bodyPost_ret (v := .tuple #[zV, .int .i64 0, .int .i64 5]) (by simp only [results, Try.results19]; go_simp) rfl (RetG.bad HR.out ?_)
      repeat (first | (with_reducible exact HB1.out) | (with_reducible refine bDrewN (n := 1) ?_) | ((with_reducible refine Below.setCell ?_ ?_ _); rotate_left; focus (first | (simp; done) | (simp; omega))) | ((with_reducible refine Below.alloc ?_ ?_ _); rotate_left; focus (first | (simp; done) | (simp; omega))))
  | ok i =>
    obtain ⟨hask, x, hx, hid, hmode, -⟩ := readV_ok ha
    obtain ⟨hv, hok, -, -⟩ := askV_ok hask
    have HRG := Lib.hid (show getV s id = .ok ({ s with opn := s.opn.set i (getG (getC (restT s x)) x) }, getC (restT s x)) by simp [getV, ha, hx])
    clear hask hok
    have hil := (List.getElem?_eq_some_iff.1 hx).1
    obtain ⟨k, hk1, hk2, hk3, hk4, hk5⟩ := valid_file hv hx
    have hkl := (List.getElem?_eq_some_iff.1 hk2).1
    obtain ⟨hvf, hvo, hvn1, hvn2, -, -⟩ := valid_head hv
    obtain ⟨b, off, x', rfl, hb, hx', hx4⟩ := HO.out.at hil
    rw [hx] at hx'
    injection hx' with hx'
    subst hx'
    obtain ⟨bf, offf, f', rfl, hbf, hf', hf4⟩ := HA.out.at hkl
    rw [hk2] at hf'
    injection hf' with hf'
    obtain ⟨f, hfd⟩ : ∃ f, fileOf s x = f := ⟨_, rfl⟩
    rw [hfd] at hf' hk2 hk3 hk4 hk5
    subst hf'
    have HFD := Lib.hid hfd
    have HX := Lib.hid hx
    have HV := Lib.hid hv
    have HX4 := Lib.hid hx4
    have HF4 := Lib.hid hf4
    have HK1x := Lib.hid hk1
    have HK2x := Lib.hid hk2
    have HK5x := Lib.hid hk5
    clear hk1 hk2 hk3 hk5 hv hx hfd hx4 hf4
    have hili : (i : Int) < (s.opn.length : Int) := by omega
    have hkli : (k : Int) < (s.files.length : Int) := by omega
    have hp := HK5x.out hmode
    have hrs : ((restT s x).size : Int) = f.text.size - x.pos := by have h := restT_size (s := s) (x := x) (by rw [HFD.out]; exact hp); rw [HFD.out] at h; exact h
    clear hmode hid
    obtain ⟨t, ht⟩ : ∃ t, restT s x = t := ⟨_, rfl⟩
    rw [ht] at hrs HRG
    have HT := Lib.hid ht
    clear ht
    have HA2 := Lib.hid ha
    clear ha
    obtain ⟨W, HWd⟩ : ∃ W, Hid (W = (((w.alloc (.cells #[.slice (some ⟨bf, offf, none⟩) s.files.length c0, .slice (some ⟨b, off, none⟩) s.opn.length c1, .int .i64 s.inp, .int .i64 s.out, .int .i64 s.nxt] 25)).alloc (.cells #[.slice none 0 0, .slice none 0 0, .int .i64 0, .int .i64 0, .int .i64 0] 25)).alloc (.cells #[.int .i64 0] 3))) := ⟨_, rfl⟩
    have hbW : Below w.heap.size w W := by
      rw [HWd.out]
      exact (Below.alloc (Below.alloc (bAlloc w _) (by simp) _) (by simp; omega) _)
    have hzW : W.heap.size = w.heap.size + 3 := by rw [HWd.out]; simp
    have k0 : Blk W w.heap.size 25 #[.slice (some ⟨bf, offf, none⟩) s.files.length c0, .slice (some ⟨b, off, none⟩) s.opn.length c1, .int .i64 s.inp, .int .i64 s.out, .int .i64 s.nxt] := by rw [HWd.out]; exact (Blk.alloc (Blk.alloc (Blk.new _ _ _) (.cells #[.slice none 0 0, .slice none 0 0, .int .i64 0, .int .i64 0, .int .i64 0] 25)) (.cells #[.int .i64 0] 3))
    have k1 : Blk W (w.heap.size + 1) 25 #[.slice none 0 0, .slice none 0 0, .int .i64 0, .int .i64 0, .int .i64 0] := by
      have h := (Blk.alloc (Blk.new (w.alloc (.cells #[.slice (some ⟨bf, offf, none⟩) s.files.length c0, .slice (some ⟨b, off, none⟩) s.opn.length c1, .int .i64 s.inp, .int .i64 s.out, .int .i64 s.nxt] 25)) 25 #[.slice none 0 0, .slice none 0 0, .int .i64 0, .int .i64 0, .int .i64 0]) (.cells #[.int .i64 0] 3))
      rw [World.size_alloc] at h
      rw [HWd.out]; exact h
    have k2 : Blk W (w.heap.size + 1 + 1) 3 #[.int .i64 0] := by
      have h := (Blk.new ((w.alloc (.cells #[.slice (some ⟨bf, offf, none⟩) s.files.length c0, .slice (some ⟨b, off, none⟩) s.opn.length c1, .int .i64 s.inp, .int .i64 s.out, .int .i64 s.nxt] 25)).alloc (.cells #[.slice none 0 0, .slice none 0 0, .int .i64 0, .int .i64 0, .int .i64 0] 25)) 3 #[.int .i64 0])
      rw [World.size_alloc, World.size_alloc] at h
      rw [HWd.out]; exact h
    have HBW := Lib.hid hbW
    clear hbW
    go_enter Try.func19, Try.ntmps19
    go_wp2_with fail
    rw [← HWd.out]
    refine (readable_good HA2.out HX.out _ _ (HS.out.next HBW.out)).mono ?_
    rintro e w1 ⟨rfl, hb1⟩
    rw [HT.out]
    have HB1 := Lib.hid (bNext HBW.out hb1)
    have k01 := k0.next hb1
    have k11 := k1.next hb1
    have k21 := k2.next hb1
    obtain ⟨p0, p1, p2, p3, p4⟩ := smBox k01
    have z0 := k11.cell 0
    have z1 := k11.cell 1
    have z2 := k11.cell 2
    have z3 := k11.cell 3
    have z4 := k11.cell 4
    simp at z0 z1 z2 z3 z4
    have g0 := k11.frozen 0
    have g1 := k11.frozen 1
    have g2 := k11.frozen 2
    have g3 := k11.frozen 3
    have g4 := k11.frozen 4
    have zz := k11.lt
    have gc := k21.frozen 0
    have zc := k21.lt
    have hz0 : w.heap.size < w1.heap.size := by omega
    have hz1 : w.heap.size + 1 < w1.heap.size := by omega
    have ck2 := k21.cell 0
    simp at ck2
    clear hb1 k0 k1 k2
    by_cases h0 : 0 < t.size
    · have he := nempty_of h0
      have he2 : (!t.toList.isEmpty) = true := by rw [he]; rfl
      have hb255 : t[0].toNat ≤ 255 := by have := t[0].toNat_lt; omega
      obtain ⟨c, hc⟩ : ∃ c : Int, (t[0].toNat : Int) = c := ⟨_, rfl⟩
      have HC := Lib.hid hc
      have HR := Lib.hid (show getV s id = .ok ({ s with opn := s.opn.set i (getG (c) x) }, c) by rw [HRG.out]; unfold getC; rw [dif_pos h0, HC.out])
      obtain ⟨u, hu⟩ : ∃ u : Sm, Hid ({ s with opn := s.opn.set i (getG (c) x) } = u) := ⟨_, rfl⟩
      have HU := Lib.hid (show u.files.length ≤ 4398046511104 ∧ u.opn.length ≤ 1954687338268 by rw [← hu.out]; refine ⟨by show s.files.length ≤ _; omega, ?_⟩; show (s.opn.set i _).length ≤ _; rw [List.length_set]; omega)
      clear hc
      go_wp2_with fail
      (try rw [HC.out])
      obtain ⟨w2, HW2⟩ : ∃ w2, Hid (w2 = ((w1.setCell ⟨w.heap.size + 1 + 1, 0, none⟩ (.int .i64 (-1))).setCell ⟨w.heap.size + 1 + 1, 0, none⟩ (.int .i64 (c))).alloc (.cells #[.int .i64 (i : Int)] 3)) := ⟨_, rfl⟩
      have HBn := Lib.hid (show Below w.heap.size w w2 by rw [HW2.out]; exact (Below.setCell (Below.setCell (HB1.out) (by simp; omega) _) (by simp; omega) _).alloc (by simp; omega) _)
      have K0 := Lib.hid (show Blk w2 w.heap.size 25 #[.slice (some ⟨bf, offf, none⟩) s.files.length c0, .slice (some ⟨b, off, none⟩) s.opn.length c1, .int .i64 s.inp, .int .i64 s.out, .int .i64 s.nxt] by rw [HW2.out]; exact (Blk.far (Blk.far (k01) (by simp; omega) _) (by simp; omega) _).alloc _)
      have K1 := Lib.hid (show Blk w2 (w.heap.size + 1) 25 #[.slice none 0 0, .slice none 0 0, .int .i64 0, .int .i64 0, .int .i64 0] by rw [HW2.out]; exact (Blk.far (Blk.far (k11) (by simp) _) (by simp) _).alloc _)
      have K2 := Lib.hid (show Blk w2 (w.heap.size + 1 + 1) 3 #[.int .i64 (c)] by rw [HW2.out]; have h := ((k21.set_ 0 (.int .i64 (-1))).set_ 0 (.int .i64 c)).alloc (.cells #[.int .i64 (i : Int)] 3); simpa using h)
      have KP := Lib.hid (show Blk w2 w1.heap.size 3 #[.int .i64 (i : Int)] by rw [HW2.out]; have h := Blk.new ((w1.setCell ⟨w.heap.size + 1 + 1, 0, none⟩ (.int .i64 (-1))).setCell ⟨w.heap.size + 1 + 1, 0, none⟩ (.int .i64 (c))) 3 #[.int .i64 (i : Int)]; simpa using h)
      have hw2 : w1.heap.size < w2.heap.size := KP.out.lt
      rw [← HW2.out]
      clear p0 p1 p2 p3 p4 z0 z1 z2 z3 z4 g0 g1 g2 g3 g4 gc zc zz ck2 k01 k11 k21
      refine wp_region_N (fun w' => Blk w' w.heap.size 25 #[.slice (some ⟨bf, offf, none⟩) s.files.length c0, .slice (some ⟨b, off, none⟩) s.opn.length c1, .int .i64 s.inp, .int .i64 s.out, .int .i64 s.nxt] ∧ Blk w' (w.heap.size + 1 + 1) 3 #[.int .i64 (c)]) (fun j => decide (j < 6)) (by kernel_rfl) ?_
      have hS0 : (fun w' => Blk w' w.heap.size 25 #[.slice (some ⟨bf, offf, none⟩) s.files.length c0, .slice (some ⟨b, off, none⟩) s.opn.length c1, .int .i64 s.inp, .int .i64 s.out, .int .i64 s.nxt] ∧ Blk w' (w.heap.size + 1 + 1) 3 #[.int .i64 (c)]) w2.drew := ⟨K0.out, K2.out⟩
      refine wpAnyN_take (i := 0) (v := ?v1) rfl (by kernel_rfl) (by kernel_rfl) (by kernel_rfl) (by kernel_rfl) (fun _ _ _ h => h) (Or.inl ⟨by rfl, ?hy1⟩) (by assumption) ?_
      case hy1 => intro w hSw; obtain ⟨y0, y1, y2, y3, y4⟩ := smBox hSw.1; have yc := hSw.2.cell 0; simp at yc; go_simp; try with_reducible rfl
      simp only [Act.put, List.getElem_toArray, List.getElem_cons_zero, List.setIfInBounds_toArray, List.set_cons_zero, List.set_cons_succ]
      refine wpAnyN_take (i := 4) (v := ?v2) rfl (by kernel_rfl) (by kernel_rfl) (by kernel_rfl) (by kernel_rfl) (fun _ _ _ h => h) (Or.inl ⟨by rfl, ?hy2⟩) (by assumption) ?_
      case hy2 => intro w hSw; obtain ⟨y0, y1, y2, y3, y4⟩ := smBox hSw.1; have yc := hSw.2.cell 0; simp at yc; go_simp; try with_reducible rfl
      simp only [Act.put, List.getElem_toArray, List.getElem_cons_zero, List.getElem_cons_succ, List.setIfInBounds_toArray, List.set_cons_zero, List.set_cons_succ]
      refine wpAnyN_one (i := 1) (by kernel_rfl) rfl (fun K hK => ?_)
      simp only [List.getElem_toArray, List.getElem_cons_zero, List.getElem_cons_succ]
      go_simp
      refine hK _ _ (fun _ => hS0) ?_
      refine wpAnyN_one (i := 2) (by kernel_rfl) rfl (fun K hK => ?_)
      simp only [List.getElem_toArray, List.getElem_cons_zero, List.getElem_cons_succ]
      go_simp
      refine hK _ _ (fun _ => hS0) ?_
      refine wpAnyN_one (i := 3) (by kernel_rfl) rfl (fun K hK => ?_)
      simp only [List.getElem_toArray, List.getElem_cons_zero, List.getElem_cons_succ]
      go_simp
      refine (with49_any _ s u w1.heap.size (w.heap.size + 1 + 1) _ (HS.out.next (bDrewN HBn.out 1)) HU.out.1 HU.out.2 ?hap1).mono ?_
      case hap1 =>
        intro w6 B nb hnb hb6 hnw
        rw [← hu.out]
        exact get1_any nb B w1.heap.size (w.heap.size + 1 + 1) i (c) s x w6 hnw (by have := Blk.next (w := w2.drew) KP.out hb6; have := this.cell 0; simpa using this) (by have := Blk.next (w := w2.drew) K2.out hb6; have := this.cell 0; simpa using this) HX.out (by omega) (by omega)
      rintro e w3 ⟨⟨v', rfl, ho⟩, hb2⟩
      obtain ⟨v0, v1, rfl, o0, o1⟩ := ho
      obtain ⟨D0, e0, rfl, -⟩ := own_form o0
      obtain ⟨D1, e1, rfl, -⟩ := own_form o1
      have HOW := Lib.hid (show OwnS w3 _ _ _ from ⟨_, _, rfl, o0, o1⟩)
      have HB2 := Lib.hid (bNext (bDrewN HBn.out 1) hb2)
      have k13 := Blk.next (w := w2.drew) K1.out hb2
      have k23 := Blk.next (w := w2.drew) K2.out hb2
      have hz2 := hb2.size
      simp at hz2
      have z0 := k13.cell 0
      have z1 := k13.cell 1
      have z2 := k13.cell 2
      have z3 := k13.cell 3
      have z4 := k13.cell 4
      simp at z0 z1 z2 z3 z4
      have g0 := k13.frozen 0
      have g1 := k13.frozen 1
      have g2 := k13.frozen 2
      have g3 := k13.frozen 3
      have g4 := k13.frozen 4
      have gc := k23.frozen 0
      have cc := k23.cell 0
      simp at cc
      have zz := k13.lt
      have zc := k23.lt
      have hS3 := (show (fun w' => Blk w' w.heap.size 25 #[.slice (some ⟨bf, offf, none⟩) s.files.length c0, .slice (some ⟨b, off, none⟩) s.opn.length c1, .int .i64 s.inp, .int .i64 s.out, .int .i64 s.nxt] ∧ Blk w' (w.heap.size + 1 + 1) 3 #[.int .i64 (c)]) w3 from ⟨Blk.next (w := w2.drew) K0.out hb2, k23⟩)
      clear hb2 k13 k23 o0 o1 hS0
      refine hK _ _ (fun _ => hS3) ?_
      refine wpAnyN_one (i := 5) (by kernel_rfl) rfl (fun K hK => ?_)
      simp only [List.getElem_toArray, List.getElem_cons_zero, List.getElem_cons_succ]
      go_simp
      refine hK _ _ (fun _ => ⟨by repeat (first | (with_reducible exact hS3.1) | (with_reducible refine Blk.far ?_ ?_ _); rotate_left; focus (first | (simp; done) | (simp; omega))), by repeat (first | (with_reducible exact hS3.2) | (with_reducible refine Blk.far ?_ ?_ _); rotate_left; focus (first | (simp; done) | (simp; omega)))⟩) ?_
      refine wpAnyN_one (i := 6) (by kernel_rfl) rfl (fun K hK => ?_)
      simp only [List.getElem_toArray, List.getElem_cons_zero, List.getElem_cons_succ]
      go_simp
      refine hK _ _ (fun h => absurd h (by decide)) ?_
      refine wpAnyN_one (i := 7) (by kernel_rfl) rfl (fun K hK => ?_)
      simp only [List.getElem_toArray, List.getElem_cons_zero, List.getElem_cons_succ]
      go_simp
      refine hK _ _ (fun h => absurd h (by decide)) ?_
      refine wpAnyN_done (by kernel_rfl) ?_ _
      go_wp2_with fail
      refine bodyPost_ret (v := .tuple #[smV D0 D1 e0 e1 u, .int .i64 (c), .int .i64 0]) (by simp only [results, Try.results19]; go_simp) rfl (RetG.good (HR.out.trans (by rw [hu.out])) ?_ ?_)
      · refine (HOW.out.stay fun b' hb' _ => ?_).base (by simp; omega)
        simp at hb'
        repeat rw [heap_setCell_other _ _ _ _ (by simp; omega)]
      · repeat (first | (with_reducible exact HB2.out) | (with_reducible refine bDrewN (n := 1) ?_) | ((with_reducible refine Below.setCell ?_ ?_ _); rotate_left; focus (first | (simp; done) | (simp; omega))) | ((with_reducible refine Below.alloc ?_ ?_ _); rotate_left; focus (first | (simp; done) | (simp; omega))))
    · have he := empty_of h0
      have he2 : (!t.toList.isEmpty) = false := by rw [he]; rfl
      have HC := Lib.hid (rfl : (0 : Nat) = 0)
      have HR := Lib.hid (show getV s id = .ok ({ s with opn := s.opn.set i (getG (-1) x) }, -1) by rw [HRG.out]; unfold getC; rw [dif_neg h0])
      obtain ⟨u, hu⟩ : ∃ u : Sm, Hid ({ s with opn := s.opn.set i (getG (-1) x) } = u) := ⟨_, rfl⟩
      have HU := Lib.hid (show u.files.length ≤ 4398046511104 ∧ u.opn.length ≤ 1954687338268 by rw [← hu.out]; refine ⟨by show s.files.length ≤ _; omega, ?_⟩; show (s.opn.set i _).length ≤ _; rw [List.length_set]; omega)
      skip
      go_wp2_with fail
      (try rw [HC.out])
      obtain ⟨w2, HW2⟩ : ∃ w2, Hid (w2 = (w1.setCell ⟨w.heap.size + 1 + 1, 0, none⟩ (.int .i64 (-1))).alloc (.cells #[.int .i64 (i : Int)] 3)) := ⟨_, rfl⟩
      have HBn := Lib.hid (show Below w.heap.size w w2 by rw [HW2.out]; exact (Below.setCell (HB1.out) (by simp; omega) _).alloc (by simp; omega) _)
      have K0 := Lib.hid (show Blk w2 w.heap.size 25 #[.slice (some ⟨bf, offf, none⟩) s.files.length c0, .slice (some ⟨b, off, none⟩) s.opn.length c1, .int .i64 s.inp, .int .i64 s.out, .int .i64 s.nxt] by rw [HW2.out]; exact (Blk.far (k01) (by simp; omega) _).alloc _)
      have K1 := Lib.hid (show Blk w2 (w.heap.size + 1) 25 #[.slice none 0 0, .slice none 0 0, .int .i64 0, .int .i64 0, .int .i64 0] by rw [HW2.out]; exact (Blk.far (k11) (by simp) _).alloc _)
      have K2 := Lib.hid (show Blk w2 (w.heap.size + 1 + 1) 3 #[.int .i64 (-1)] by rw [HW2.out]; have h := (k21.set_ 0 (.int .i64 (-1))).alloc (.cells #[.int .i64 (i : Int)] 3); simpa using h)
      have KP := Lib.hid (show Blk w2 w1.heap.size 3 #[.int .i64 (i : Int)] by rw [HW2.out]; have h := Blk.new (w1.setCell ⟨w.heap.size + 1 + 1, 0, none⟩ (.int .i64 (-1))) 3 #[.int .i64 (i : Int)]; simpa using h)
      have hw2 : w1.heap.size < w2.heap.size := KP.out.lt
      rw [← HW2.out]
      clear p0 p1 p2 p3 p4 z0 z1 z2 z3 z4 g0 g1 g2 g3 g4 gc zc zz ck2 k01 k11 k21
      refine wp_region_N (fun w' => Blk w' w.heap.size 25 #[.slice (some ⟨bf, offf, none⟩) s.files.length c0, .slice (some ⟨b, off, none⟩) s.opn.length c1, .int .i64 s.inp, .int .i64 s.out, .int .i64 s.nxt] ∧ Blk w' (w.heap.size + 1 + 1) 3 #[.int .i64 (-1)]) (fun j => decide (j < 6)) (by kernel_rfl) ?_
      have hS0 : (fun w' => Blk w' w.heap.size 25 #[.slice (some ⟨bf, offf, none⟩) s.files.length c0, .slice (some ⟨b, off, none⟩) s.opn.length c1, .int .i64 s.inp, .int .i64 s.out, .int .i64 s.nxt] ∧ Blk w' (w.heap.size + 1 + 1) 3 #[.int .i64 (-1)]) w2.drew := ⟨K0.out, K2.out⟩
      refine wpAnyN_take (i := 0) (v := ?v3) rfl (by kernel_rfl) (by kernel_rfl) (by kernel_rfl) (by kernel_rfl) (fun _ _ _ h => h) (Or.inl ⟨by rfl, ?hy3⟩) (by assumption) ?_
      case hy3 => intro w hSw; obtain ⟨y0, y1, y2, y3, y4⟩ := smBox hSw.1; have yc := hSw.2.cell 0; simp at yc; go_simp; try with_reducible rfl
      simp only [Act.put, List.getElem_toArray, List.getElem_cons_zero, List.setIfInBounds_toArray, List.set_cons_zero, List.set_cons_succ]
      refine wpAnyN_take (i := 4) (v := ?v4) rfl (by kernel_rfl) (by kernel_rfl) (by kernel_rfl) (by kernel_rfl) (fun _ _ _ h => h) (Or.inl ⟨by rfl, ?hy4⟩) (by assumption) ?_
      case hy4 => intro w hSw; obtain ⟨y0, y1, y2, y3, y4⟩ := smBox hSw.1; have yc := hSw.2.cell 0; simp at yc; go_simp; try with_reducible rfl
      simp only [Act.put, List.getElem_toArray, List.getElem_cons_zero, List.getElem_cons_succ, List.setIfInBounds_toArray, List.set_cons_zero, List.set_cons_succ]
      refine wpAnyN_one (i := 1) (by kernel_rfl) rfl (fun K hK => ?_)
      simp only [List.getElem_toArray, List.getElem_cons_zero, List.getElem_cons_succ]
      go_simp
      refine hK _ _ (fun _ => hS0) ?_
      refine wpAnyN_one (i := 2) (by kernel_rfl) rfl (fun K hK => ?_)
      simp only [List.getElem_toArray, List.getElem_cons_zero, List.getElem_cons_succ]
      go_simp
      refine hK _ _ (fun _ => hS0) ?_
      refine wpAnyN_one (i := 3) (by kernel_rfl) rfl (fun K hK => ?_)
      simp only [List.getElem_toArray, List.getElem_cons_zero, List.getElem_cons_succ]
      go_simp
      refine (with49_any _ s u w1.heap.size (w.heap.size + 1 + 1) _ (HS.out.next (bDrewN HBn.out 1)) HU.out.1 HU.out.2 ?hap1).mono ?_
      case hap1 =>
        intro w6 B nb hnb hb6 hnw
        rw [← hu.out]
        exact get1_any nb B w1.heap.size (w.heap.size + 1 + 1) i (-1) s x w6 hnw (by have := Blk.next (w := w2.drew) KP.out hb6; have := this.cell 0; simpa using this) (by have := Blk.next (w := w2.drew) K2.out hb6; have := this.cell 0; simpa using this) HX.out (by omega) (by omega)
      rintro e w3 ⟨⟨v', rfl, ho⟩, hb2⟩
      obtain ⟨v0, v1, rfl, o0, o1⟩ := ho
      obtain ⟨D0, e0, rfl, -⟩ := own_form o0
      obtain ⟨D1, e1, rfl, -⟩ := own_form o1
      have HOW := Lib.hid (show OwnS w3 _ _ _ from ⟨_, _, rfl, o0, o1⟩)
      have HB2 := Lib.hid (bNext (bDrewN HBn.out 1) hb2)
      have k13 := Blk.next (w := w2.drew) K1.out hb2
      have k23 := Blk.next (w := w2.drew) K2.out hb2
      have hz2 := hb2.size
      simp at hz2
      have z0 := k13.cell 0
      have z1 := k13.cell 1
      have z2 := k13.cell 2
      have z3 := k13.cell 3
      have z4 := k13.cell 4
      simp at z0 z1 z2 z3 z4
      have g0 := k13.frozen 0
      have g1 := k13.frozen 1
      have g2 := k13.frozen 2
      have g3 := k13.frozen 3
      have g4 := k13.frozen 4
      have gc := k23.frozen 0
      have cc := k23.cell 0
      simp at cc
      have zz := k13.lt
      have zc := k23.lt
      have hS3 := (show (fun w' => Blk w' w.heap.size 25 #[.slice (some ⟨bf, offf, none⟩) s.files.length c0, .slice (some ⟨b, off, none⟩) s.opn.length c1, .int .i64 s.inp, .int .i64 s.out, .int .i64 s.nxt] ∧ Blk w' (w.heap.size + 1 + 1) 3 #[.int .i64 (-1)]) w3 from ⟨Blk.next (w := w2.drew) K0.out hb2, k23⟩)
      clear hb2 k13 k23 o0 o1 hS0
      refine hK _ _ (fun _ => hS3) ?_
      refine wpAnyN_one (i := 5) (by kernel_rfl) rfl (fun K hK => ?_)
      simp only [List.getElem_toArray, List.getElem_cons_zero, List.getElem_cons_succ]
      go_simp
      refine hK _ _ (fun _ => ⟨by repeat (first | (with_reducible exact hS3.1) | (with_reducible refine Blk.far ?_ ?_ _); rotate_left; focus (first | (simp; done) | (simp; omega))), by repeat (first | (with_reducible exact hS3.2) | (with_reducible refine Blk.far ?_ ?_ _); rotate_left; focus (first | (simp; done) | (simp; omega)))⟩) ?_
      refine wpAnyN_one (i := 6) (by kernel_rfl) rfl (fun K hK => ?_)
      simp only [List.getElem_toArray, List.getElem_cons_zero, List.getElem_cons_succ]
      go_simp
      refine hK _ _ (fun h => absurd h (by decide)) ?_
      refine wpAnyN_one (i := 7) (by kernel_rfl) rfl (fun K hK => ?_)
      simp only [List.getElem_toArray, List.getElem_cons_zero, List.getElem_cons_succ]
      go_simp
      refine hK _ _ (fun h => absurd h (by decide)) ?_
      refine wpAnyN_done (by kernel_rfl) ?_ _
      go_wp2_with fail
      refine bodyPost_ret (v := .tuple #[smV D0 D1 e0 e1 u, .int .i64 (-1), .int .i64 0]) (by simp only [results, Try.results19]; go_simp) rfl (RetG.good (HR.out.trans (by rw [hu.out])) ?_ ?_)
      · refine (HOW.out.stay fun b' hb' _ => ?_).base (by simp; omega)
        simp at hb'
        repeat rw [heap_setCell_other _ _ _ _ (by simp; omega)]
      · repeat (first | (with_reducible exact HB2.out) | (with_reducible refine bDrewN (n := 1) ?_) | ((with_reducible refine Below.setCell ?_ ?_ _); rotate_left; focus (first | (simp; done) | (simp; omega))) | ((with_reducible refine Below.alloc ?_ ?_ _); rotate_left; focus (first | (simp; done) | (simp; omega))))
end Go.Proofs.Ytklpghpfdeojeaa
