/-
  Walks: Peek, AtEnd, Rest, Find, Text of the program.
-/
import Derived.Test.YtklpghpfdeojeaaUg
namespace Go.Proofs.Ytklpghpfdeojeaa
open Go.RowKit

theorem getV_er {s : Sm} {id : Int} {e : Int} (h : getV s id = .error e) : e = 1 ∨ e = 4 ∨ e = 5 := by
  unfold getV at h
  cases ha : readV s id true with
  | error e' => rw [ha] at h; injection h with h; subst h; exact readV_er ha
  | ok i =>
    obtain ⟨-, x, hx, -⟩ := readV_ok ha
    rw [ha] at h
    simp only [hx] at h
    cases h
theorem peekV_bad {s : Sm} {id e : Int} (h : getV s id = .error e) : peekV s id = .error e := by unfold peekV; rw [h]
theorem peekV_good {s t : Sm} {id c : Int} (h : getV s id = .ok (t, c)) : peekV s id = .ok (s, c) := by unfold peekV; rw [h]
theorem askV_valid {s : Sm} {id : Int} {ok : Bool} {i : Nat} (h : askV s id ok = .ok i) : validB s = true := (askV_ok h).1
theorem getV_valid {s t : Sm} {id c : Int} (h : getV s id = .ok (t, c)) : validB s = true := by
  unfold getV at h
  cases ha : readV s id true with
  | error e' => rw [ha] at h; cases h
  | ok i => exact askV_valid (readV_ok ha).1

set_option maxHeartbeats 4000000 in
theorem peek_any (v : Value) (s : Sm) (id : Int) (w : World) (hs : SmAt w w.heap.size v s) :
    Calls Try.prog 18 #[v, .int .i64 id] w (RetG (peekV s id) w) := by
  obtain ⟨A0, c0, A1, c1, rfl, hcap, h0, h1⟩ := hs
  have HS : Hid (SmAt w w.heap.size (smV A0 A1 c0 c1 s) s) := ⟨A0, c0, A1, c1, rfl, hcap, h0, h1⟩
  have HA := Lib.hid h0
  have HO := Lib.hid h1
  have hfl := h0.1.2
  have hol := h1.1.2
  clear h0 h1 hcap
  cases ha : getV s id with
  | error er =>
    have HR := Lib.hid (peekV_bad ha)
    rcases getV_er ha with rfl | rfl | rfl
    · have HA2 := Lib.hid ha
      clear ha
      obtain ⟨W, HWd⟩ : ∃ W, Hid (W = ((w.alloc (.cells #[.slice A0 s.files.length c0, .slice A1 s.opn.length c1, .int .i64 s.inp, .int .i64 s.out, .int .i64 s.nxt] 25)).alloc (.cells #[.slice none 0 0, .slice none 0 0, .int .i64 0, .int .i64 0, .int .i64 0] 25))) := ⟨_, rfl⟩
      have hbW : Below w.heap.size w W := by
        rw [HWd.out]
        exact (Below.alloc (bAlloc w _) (by simp) _)
      have hzW : W.heap.size = w.heap.size + 2 := by rw [HWd.out]; simp
      have k0 : Blk W w.heap.size 25 #[.slice A0 s.files.length c0, .slice A1 s.opn.length c1, .int .i64 s.inp, .int .i64 s.out, .int .i64 s.nxt] := by rw [HWd.out]; exact (Blk.alloc (Blk.new _ _ _) (.cells #[.slice none 0 0, .slice none 0 0, .int .i64 0, .int .i64 0, .int .i64 0] 25))
      have k1 : Blk W (w.heap.size + 1) 25 #[.slice none 0 0, .slice none 0 0, .int .i64 0, .int .i64 0, .int .i64 0] := by
        have h := (Blk.new (w.alloc (.cells #[.slice A0 s.files.length c0, .slice A1 s.opn.length c1, .int .i64 s.inp, .int .i64 s.out, .int .i64 s.nxt] 25)) 25 #[.slice none 0 0, .slice none 0 0, .int .i64 0, .int .i64 0, .int .i64 0])
        rw [World.size_alloc] at h
        rw [HWd.out]; exact h
      have HBW := Lib.hid hbW
      clear hbW
      go_enter Try.func18, Try.ntmps18
      go_wp2_with fail
      rw [← HWd.out]
      refine (get_any _ s id _ (HS.out.next HBW.out)).mono ?_
      rintro e w1 ⟨⟨v', rfl, -⟩, hb1⟩
      rw [HA2.out]
      have HB1 := Lib.hid (bNext HBW.out hb1)
      have k01 := k0.next hb1
      have k11 := k1.next hb1
      obtain ⟨p0, p1, p2, p3, p4⟩ := smBox k01
      have z0 := k11.cell 0
      have z1 := k11.cell 1
      have z2 := k11.cell 2
      have z3 := k11.cell 3
      have z4 := k11.cell 4
      simp at z0 z1 z2 z3 z4
      have g0 := k11.frozen 0
      have g1 := k11.frozen 1
      have g2 := k11.frozen 2
      have g3 := k11.frozen 3
      have g4 := k11.frozen 4
      have zz := k11.lt
      have hz0 : w.heap.size < w1.heap.size := by omega
      clear hb1 k0 k01 k1
      simp only [in2, errOf]
      go_wp2_with fail
      refine bodyPost_ret (v := .tuple #[zV, .int .i64 0, .int .i64 1]) (by simp only [results, Try.results18]; go_simp) rfl (RetG.bad HR.out ?_)
      repeat (first | (with_reducible exact HB1.out) | (with_reducible refine bDrewN (n := 1) ?_) | ((with_reducible refine Below.setCell ?_ ?_ _); rotate_left; focus (first | (simp; done) | (simp; omega))) | ((with_reducible refine Below.alloc ?_ ?_ _); rotate_left; focus (first | (simp; done) | (simp; omega))))
    · have HA2 := Lib.hid ha
      clear ha
      obtain ⟨W, HWd⟩ : ∃ W, Hid (W = ((w.alloc (.cells #[.slice A0 s.files.length c0, .slice A1 s.opn.length c1, .int .i64 s.inp, .int .i64 s.out, .int .i64 s.nxt] 25)).alloc (.cells #[.slice none 0 0, .slice none 0 0, .int .i64 0, .int .i64 0, .int .i64 0] 25))) := ⟨_, rfl⟩
      have hbW : Below w.heap.size w W := by
        rw [HWd.out]
        exact (Below.alloc (bAlloc w _) (by simp) _)
      have hzW : W.heap.size = w.heap.size + 2 := by rw [HWd.out]; simp
      have k0 : Blk W w.heap.size 25 #[.slice A0 s.files.length c0, .slice A1 s.opn.length c1, .int .i64 s.inp, .int .i64 s.out, .int .i64 s.nxt] := by rw [HWd.out]; exact (Blk.alloc (Blk.new _ _ _) (.cells #[.slice none 0 0, .slice none 0 0, .int .i64 0, .int .i64 0, .int .i64 0] 25))
      have k1 : Blk W (w.heap.size + 1) 25 #[.slice none 0 0, .slice none 0 0, .int .i64 0, .int .i64 0, .int .i64 0] := by
        have h := (Blk.new (w.alloc (.cells #[.slice A0 s.files.length c0, .slice A1 s.opn.length c1, .int .i64 s.inp, .int .i64 s.out, .int .i64 s.nxt] 25)) 25 #[.slice none 0 0, .slice none 0 0, .int .i64 0, .int .i64 0, .int .i64 0])
        rw [World.size_alloc] at h
        rw [HWd.out]; exact h
      have HBW := Lib.hid hbW
      clear hbW
      go_enter Try.func18, Try.ntmps18
      go_wp2_with fail
      rw [← HWd.out]
      refine (get_any _ s id _ (HS.out.next HBW.out)).mono ?_
      rintro e w1 ⟨⟨v', rfl, -⟩, hb1⟩
      rw [HA2.out]
      have HB1 := Lib.hid (bNext HBW.out hb1)
      have k01 := k0.next hb1
      have k11 := k1.next hb1
      obtain ⟨p0, p1, p2, p3, p4⟩ := smBox k01
      have z0 := k11.cell 0
      have z1 := k11.cell 1
      have z2 := k11.cell 2
      have z3 := k11.cell 3
      have z4 := k11.cell 4
      simp at z0 z1 z2 z3 z4
      have g0 := k11.frozen 0
      have g1 := k11.frozen 1
      have g2 := k11.frozen 2
      have g3 := k11.frozen 3
      have g4 := k11.frozen 4
      have zz := k11.lt
      have hz0 : w.heap.size < w1.heap.size := by omega
      clear hb1 k0 k01 k1
      simp only [in2, errOf]
      go_wp2_with fail
      refine bodyPost_ret (v := .tuple #[zV, .int .i64 0, .int .i64 4]) (by simp only [results, Try.results18]; go_simp) rfl (RetG.bad HR.out ?_)
      repeat (first | (with_reducible exact HB1.out) | (with_reducible refine bDrewN (n := 1) ?_) | ((with_reducible refine Below.setCell ?_ ?_ _); rotate_left; focus (first | (simp; done) | (simp; omega))) | ((with_reducible refine Below.alloc ?_ ?_ _); rotate_left; focus (first | (simp; done) | (simp; omega))))
    · have HA2 := Lib.hid ha
      clear ha
      obtain ⟨W, HWd⟩ : ∃ W, Hid (W = ((w.alloc (.cells #[.slice A0 s.files.length c0, .slice A1 s.opn.length c1, .int .i64 s.inp, .int .i64 s.out, .int .i64 s.nxt] 25)).alloc (.cells #[.slice none 0 0, .slice none 0 0, .int .i64 0, .int .i64 0, .int .i64 0] 25))) := ⟨_, rfl⟩
      have hbW : Below w.heap.size w W := by
        rw [HWd.out]
        exact (Below.alloc (bAlloc w _) (by simp) _)
      have hzW : W.heap.size = w.heap.size + 2 := by rw [HWd.out]; simp
      have k0 : Blk W w.heap.size 25 #[.slice A0 s.files.length c0, .slice A1 s.opn.length c1, .int .i64 s.inp, .int .i64 s.out, .int .i64 s.nxt] := by rw [HWd.out]; exact (Blk.alloc (Blk.new _ _ _) (.cells #[.slice none 0 0, .slice none 0 0, .int .i64 0, .int .i64 0, .int .i64 0] 25))
      have k1 : Blk W (w.heap.size + 1) 25 #[.slice none 0 0, .slice none 0 0, .int .i64 0, .int .i64 0, .int .i64 0] := by
        have h := (Blk.new (w.alloc (.cells #[.slice A0 s.files.length c0, .slice A1 s.opn.length c1, .int .i64 s.inp, .int .i64 s.out, .int .i64 s.nxt] 25)) 25 #[.slice none 0 0, .slice none 0 0, .int .i64 0, .int .i64 0, .int .i64 0])
        rw [World.size_alloc] at h
        rw [HWd.out]; exact h
      have HBW := Lib.hid hbW
      clear hbW
      go_enter Try.func18, Try.ntmps18
      go_wp2_with fail
      rw [← HWd.out]
      refine (get_any _ s id _ (HS.out.next HBW.out)).mono ?_
      rintro e w1 ⟨⟨v', rfl, -⟩, hb1⟩
      rw [HA2.out]
      have HB1 := Lib.hid (bNext HBW.out hb1)
      have k01 := k0.next hb1
      have k11 := k1.next hb1
      obtain ⟨p0, p1, p2, p3, p4⟩ := smBox k01
      have z0 := k11.cell 0
      have z1 := k11.cell 1
      have z2 := k11.cell 2
      have z3 := k11.cell 3
      have z4 := k11.cell 4
      simp at z0 z1 z2 z3 z4
      have g0 := k11.frozen 0
      have g1 := k11.frozen 1
      have g2 := k11.frozen 2
      have g3 := k11.frozen 3
      have g4 := k11.frozen 4
      have zz := k11.lt
      have hz0 : w.heap.size < w1.heap.size := by omega
      clear hb1 k0 k01 k1
      simp only [in2, errOf]
      go_wp2_with fail
      refine bodyPost_ret (v := .tuple #[zV, .int .i64 0, .int .i64 5]) (by simp only [results, Try.results18]; go_simp) rfl (RetG.bad HR.out ?_)
      repeat (first | (with_reducible exact HB1.out) | (with_reducible refine bDrewN (n := 1) ?_) | ((with_reducible refine Below.setCell ?_ ?_ _); rotate_left; focus (first | (simp; done) | (simp; omega))) | ((with_reducible refine Below.alloc ?_ ?_ _); rotate_left; focus (first | (simp; done) | (simp; omega))))
  | ok r =>
    obtain ⟨s1, c⟩ := r
    have HR := Lib.hid (peekV_good ha)
    obtain ⟨hvf, hvo, -, -, -, -⟩ := valid_head (getV_valid ha)
    have HA2 := Lib.hid ha
    clear ha
    obtain ⟨W, HWd⟩ : ∃ W, Hid (W = ((w.alloc (.cells #[.slice A0 s.files.length c0, .slice A1 s.opn.length c1, .int .i64 s.inp, .int .i64 s.out, .int .i64 s.nxt] 25)).alloc (.cells #[.slice none 0 0, .slice none 0 0, .int .i64 0, .int .i64 0, .int .i64 0] 25))) := ⟨_, rfl⟩
    have hbW : Below w.heap.size w W := by
      rw [HWd.out]
      exact (Below.alloc (bAlloc w _) (by simp) _)
    have hzW : W.heap.size = w.heap.size + 2 := by rw [HWd.out]; simp
    have k0 : Blk W w.heap.size 25 #[.slice A0 s.files.length c0, .slice A1 s.opn.length c1, .int .i64 s.inp, .int .i64 s.out, .int .i64 s.nxt] := by rw [HWd.out]; exact (Blk.alloc (Blk.new _ _ _) (.cells #[.slice none 0 0, .slice none 0 0, .int .i64 0, .int .i64 0, .int .i64 0] 25))
    have k1 : Blk W (w.heap.size + 1) 25 #[.slice none 0 0, .slice none 0 0, .int .i64 0, .int .i64 0, .int .i64 0] := by
      have h := (Blk.new (w.alloc (.cells #[.slice A0 s.files.length c0, .slice A1 s.opn.length c1, .int .i64 s.inp, .int .i64 s.out, .int .i64 s.nxt] 25)) 25 #[.slice none 0 0, .slice none 0 0, .int .i64 0, .int .i64 0, .int .i64 0])
      rw [World.size_alloc] at h
      rw [HWd.out]; exact h
    have HBW := Lib.hid hbW
    clear hbW
    go_enter Try.func18, Try.ntmps18
    go_wp2_with fail
    rw [← HWd.out]
    refine (get_any _ s id _ (HS.out.next HBW.out)).mono ?_
    rintro e w1 ⟨⟨v', rfl, -⟩, hb1⟩
    rw [HA2.out]
    have HB1 := Lib.hid (bNext HBW.out hb1)
    have k01 := k0.next hb1
    have k11 := k1.next hb1
    obtain ⟨p0, p1, p2, p3, p4⟩ := smBox k01
    have z0 := k11.cell 0
    have z1 := k11.cell 1
    have z2 := k11.cell 2
    have z3 := k11.cell 3
    have z4 := k11.cell 4
    simp at z0 z1 z2 z3 z4
    have g0 := k11.frozen 0
    have g1 := k11.frozen 1
    have g2 := k11.frozen 2
    have g3 := k11.frozen 3
    have g4 := k11.frozen 4
    have zz := k11.lt
    have hz0 : w.heap.size < w1.heap.size := by omega
    clear hb1 k0 k01 k1
    simp only [in2, errOf]
    go_wp2_with fail
    refine (with48_any _ s s _ (HS.out.next HB1.out) (by omega) (by omega) ?hap1).mono ?_
    case hap1 =>
      intro w6 B nb hnb hb6 hnw
      refine (peek1_any nb w6).mono ?_
      rintro e w7 ⟨rfl, rfl⟩
      exact ⟨rfl, hnw, Below.refl _ _⟩
    rintro e w2 ⟨⟨v', rfl, ho⟩, hb2⟩
    obtain ⟨v0, v1, rfl, o0, o1⟩ := ho
    obtain ⟨D0, e0, rfl, -⟩ := own_form o0
    obtain ⟨D1, e1, rfl, -⟩ := own_form o1
    have HOW := Lib.hid (show OwnS w2 _ _ _ from ⟨_, _, rfl, o0, o1⟩)
    have HB2 := Lib.hid (bNext HB1.out hb2)
    have k12 := k11.next hb2
    have hz2 := hb2.size
    clear z0 z1 z2 z3 z4 g0 g1 g2 g3 g4
    have z0 := k12.cell 0
    have z1 := k12.cell 1
    have z2 := k12.cell 2
    have z3 := k12.cell 3
    have z4 := k12.cell 4
    simp at z0 z1 z2 z3 z4
    have g0 := k12.frozen 0
    have g1 := k12.frozen 1
    have g2 := k12.frozen 2
    have g3 := k12.frozen 3
    have g4 := k12.frozen 4
    have zz2 := k12.lt
    clear hb2 k12 o0 o1
    go_wp2_with fail
    refine bodyPost_ret (v := .tuple #[smV D0 D1 e0 e1 s, .int .i64 c, .int .i64 0]) (by simp only [results, Try.results18]; go_simp) rfl (RetG.good HR.out ?_ ?_)
    · refine (HOW.out.stay fun b' hb' _ => ?_).base (by omega)
      repeat rw [heap_setCell_other _ _ _ _ (by simp; omega)]
    · repeat (first | (with_reducible exact HB2.out) | (with_reducible refine bDrewN (n := 1) ?_) | ((with_reducible refine Below.setCell ?_ ?_ _); rotate_left; focus (first | (simp; done) | (simp; omega))) | ((with_reducible refine Below.alloc ?_ ?_ _); rotate_left; focus (first | (simp; done) | (simp; omega))))

set_option maxHeartbeats 4000000 in
theorem atEnd_any (v : Value) (s : Sm) (id : Int) (w : World) (hs : SmAt w w.heap.size v s) :
    Calls Try.prog 16 #[v, .int .i64 id] w fun e w' => e = .returned (.tuple #[.bool (boolOf (atEndV s id)), .int .i64 (errOf (atEndV s id))]) ∧ Below w.heap.size w w' := by
  obtain ⟨A0, c0, A1, c1, rfl, hcap, h0, h1⟩ := hs
  have HS : Hid (SmAt w w.heap.size (smV A0 A1 c0 c1 s) s) := ⟨A0, c0, A1, c1, rfl, hcap, h0, h1⟩
  have HA := Lib.hid h0
  have HO := Lib.hid h1
  have hfl := h0.1.2
  have hol := h1.1.2
  clear h0 h1 hcap
  cases ha : askV s id true with
  | error er =>
    have HR := Lib.hid (show atEndV s id = .error er by simp [atEndV, ha])
    rcases askV_er ha with rfl | rfl
    · have HN := Lib.hid (bAlloc w (smO A0 A1 c0 c1 s))
      have HK : Hid (Blk (w.alloc (smO A0 A1 c0 c1 s)) w.heap.size 25 #[.slice A0 s.files.length c0, .slice A1 s.opn.length c1, .int .i64 s.inp, .int .i64 s.out, .int .i64 s.nxt]) := Blk.new _ _ _
      have HA2 := Lib.hid ha
      clear ha
      go_enter Try.func16, Try.ntmps16
      go_wp2_with fail
      refine (opened_bad HA2.out _ _ (HS.out.next HN.out)).mono ?_
      rintro e w1 ⟨rfl, hb1⟩
      have HB1 := Lib.hid (bNext HN.out hb1)
      have HK1 := Lib.hid (HK.out.next hb1)
      obtain ⟨p0, p1, p2, p3, p4⟩ := smBox HK1.out
      have hz1 := HK1.out.lt
      clear hb1
      go_wp2_with fail
      go_ret2
      exact ⟨by rw [HR.out]; rfl, HB1.out⟩
    · have HN := Lib.hid (bAlloc w (smO A0 A1 c0 c1 s))
      have HK : Hid (Blk (w.alloc (smO A0 A1 c0 c1 s)) w.heap.size 25 #[.slice A0 s.files.length c0, .slice A1 s.opn.length c1, .int .i64 s.inp, .int .i64 s.out, .int .i64 s.nxt]) := Blk.new _ _ _
      have HA2 := Lib.hid ha
      clear ha
      go_enter Try.func16, Try.ntmps16
      go_wp2_with fail
      refine (opened_bad HA2.out _ _ (HS.out.next HN.out)).mono ?_
      rintro e w1 ⟨rfl, hb1⟩
      have HB1 := Lib.hid (bNext HN.out hb1)
      have HK1 := Lib.hid (HK.out.next hb1)
      obtain ⟨p0, p1, p2, p3, p4⟩ := smBox HK1.out
      have hz1 := HK1.out.lt
      clear hb1
      go_wp2_with fail
      go_ret2
      exact ⟨by rw [HR.out]; rfl, HB1.out⟩
  | ok i =>
    obtain ⟨hv, -, hix, x, hx, hid⟩ := askV_ok ha
    have HRA := Lib.hid (show atEndV s id = if x.mode != 1 then .error 5 else .ok (x.pos == (fileOf s x).text.size) by simp [atEndV, ha, hx])
    have HA2 := Lib.hid ha
    clear ha hix hid
    have hil := (List.getElem?_eq_some_iff.1 hx).1
    obtain ⟨k, hk1, hk2, hk3, hk4, hk5⟩ := valid_file hv hx
    have hkl := (List.getElem?_eq_some_iff.1 hk2).1
    obtain ⟨hvf, hvo, hvn1, hvn2, -, -⟩ := valid_head hv
    obtain ⟨b, off, x', rfl, hb, hx', hx4⟩ := HO.out.at hil
    rw [hx] at hx'
    injection hx' with hx'
    subst hx'
    obtain ⟨bf, offf, f', rfl, hbf, hf', hf4⟩ := HA.out.at hkl
    rw [hk2] at hf'
    injection hf' with hf'
    obtain ⟨f, hfd⟩ : ∃ f, fileOf s x = f := ⟨_, rfl⟩
    rw [hfd] at hf' hk2 hk3 hk4 hk5
    subst hf'
    have HFD := Lib.hid hfd
    have HX := Lib.hid hx
    have HV := Lib.hid hv
    have HX4 := Lib.hid hx4
    have HF4 := Lib.hid hf4
    have HK1x := Lib.hid hk1
    have HK2x := Lib.hid hk2
    have HK5x := Lib.hid hk5
    clear hk1 hk2 hk3 hk5 hv hx hfd hx4 hf4
    have hili : (i : Int) < (s.opn.length : Int) := by omega
    have hkli : (k : Int) < (s.files.length : Int) := by omega
    have HN := Lib.hid (bAlloc w (smO (some ⟨bf, offf, none⟩) (some ⟨b, off, none⟩) c0 c1 s))
    have HK : Hid (Blk (w.alloc (smO (some ⟨bf, offf, none⟩) (some ⟨b, off, none⟩) c0 c1 s)) w.heap.size 25 #[.slice (some ⟨bf, offf, none⟩) s.files.length c0, .slice (some ⟨b, off, none⟩) s.opn.length c1, .int .i64 s.inp, .int .i64 s.out, .int .i64 s.nxt]) := Blk.new _ _ _
    rw [HFD.out] at HRA
    go_enter Try.func16, Try.ntmps16
    go_wp2_with fail
    refine (opened_good HA2.out _ _ (HS.out.next HN.out)).mono ?_
    rintro e w1 ⟨rfl, hb1⟩
    have HB1 := Lib.hid (bNext HN.out hb1)
    have HK1 := Lib.hid (HK.out.next hb1)
    obtain ⟨p0, p1, p2, p3, p4⟩ := smBox HK1.out
    have hz1 := HK1.out.lt
    clear hb1
    obtain ⟨q0, q1, q2, q3, q4, q5, q6⟩ := HX4.out.below hb HB1.out
    cases hm : x.mode != 1
    · have HR := Lib.hid (show atEndV s id = .ok (x.pos == f.text.size) by rw [HRA.out, hm]; rfl)
      go_wp2_with fail
      refine wp_region_N (SG (some ⟨bf, offf, none⟩) (some ⟨b, off, none⟩) c0 c1 s w.heap.size x (.bool x.past) w1.heap.size) (fun _ => true) (by kernel_rfl) ?_
      have hB0 := bDrewN (HB1.out.alloc (Nat.le_of_lt hz1) (.cells #[.int .i64 x.id, .string x.file, .int .i64 x.mode, .int .i64 x.pos, .string x.alias_, .int .i64 x.eof, (.bool x.past)] 52)) 1
      have hS0 : SG (some ⟨bf, offf, none⟩) (some ⟨b, off, none⟩) c0 c1 s w.heap.size x (.bool x.past) w1.heap.size (w1.alloc (.cells #[.int .i64 x.id, .string x.file, .int .i64 x.mode, .int .i64 x.pos, .string x.alias_, .int .i64 x.eof, (.bool x.past)] 52)).drew := ⟨HK1.out.alloc _, Blk.new _ _ _⟩
      refine wpAnyN_take (i := 0) (v := ?v1) rfl (by kernel_rfl) (by kernel_rfl) (by kernel_rfl) (by kernel_rfl) (fun _ _ _ h => h) (Or.inl ⟨by rfl, ?hy1⟩) (by assumption) ?_
      case hy1 => intro w hSw; obtain ⟨⟨y0, y1, y2, y3, y4⟩, r1, r3⟩ := (show _ ∧ _ ∧ _ from ⟨smBox hSw.1, by have := hSw.2.cell 1; simpa using this, by have := hSw.2.cell 3; simpa using this⟩); go_simp; try with_reducible rfl
      simp only [Act.put, List.getElem_toArray, List.getElem_cons_zero, List.setIfInBounds_toArray, List.set_cons_zero, List.set_cons_succ]
      refine wpAnyN_take (i := 1) (v := ?v2) rfl (by kernel_rfl) (by kernel_rfl) (by kernel_rfl) (by kernel_rfl) (fun _ _ _ h => h) (Or.inl ⟨by rfl, ?hy2⟩) (by assumption) ?_
      case hy2 => intro w hSw; obtain ⟨⟨y0, y1, y2, y3, y4⟩, r1, r3⟩ := (show _ ∧ _ ∧ _ from ⟨smBox hSw.1, by have := hSw.2.cell 1; simpa using this, by have := hSw.2.cell 3; simpa using this⟩); go_simp; try with_reducible rfl
      simp only [Act.put, List.getElem_toArray, List.getElem_cons_zero, List.getElem_cons_succ, List.setIfInBounds_toArray, List.set_cons_zero, List.set_cons_succ]
      refine wpAnyN_take (i := 2) (v := ?v3) rfl (by kernel_rfl) (by kernel_rfl) (by kernel_rfl) (by kernel_rfl) (fun _ _ _ h => h) (Or.inl ⟨by rfl, ?hy3⟩) (by assumption) ?_
      case hy3 => intro w hSw; obtain ⟨⟨y0, y1, y2, y3, y4⟩, r1, r3⟩ := (show _ ∧ _ ∧ _ from ⟨smBox hSw.1, by have := hSw.2.cell 1; simpa using this, by have := hSw.2.cell 3; simpa using this⟩); go_simp; try with_reducible rfl
      simp only [Act.put, List.getElem_toArray, List.getElem_cons_zero, List.getElem_cons_succ, List.setIfInBounds_toArray, List.set_cons_zero, List.set_cons_succ]
      refine wpAnyN_take (i := 3) (v := ?v4) rfl (by kernel_rfl) (by kernel_rfl) (by kernel_rfl) (by kernel_rfl) (fun _ _ _ h => h) (Or.inl ⟨by rfl, ?hy4⟩) (by assumption) ?_
      case hy4 => intro w hSw; obtain ⟨⟨y0, y1, y2, y3, y4⟩, r1, r3⟩ := (show _ ∧ _ ∧ _ from ⟨smBox hSw.1, by have := hSw.2.cell 1; simpa using this, by have := hSw.2.cell 3; simpa using this⟩); go_simp; try with_reducible rfl
      simp only [Act.put, List.getElem_toArray, List.getElem_cons_zero, List.getElem_cons_succ, List.setIfInBounds_toArray, List.set_cons_zero, List.set_cons_succ]
      refine wpAnyN_take (i := 4) (v := ?v5) rfl (by kernel_rfl) (by kernel_rfl) (by kernel_rfl) (by kernel_rfl) (fun _ _ _ h => h) (Or.inl ⟨by rfl, ?hy5⟩) (by assumption) ?_
      case hy5 => intro w hSw; obtain ⟨⟨y0, y1, y2, y3, y4⟩, r1, r3⟩ := (show _ ∧ _ ∧ _ from ⟨smBox hSw.1, by have := hSw.2.cell 1; simpa using this, by have := hSw.2.cell 3; simpa using this⟩); go_simp; try with_reducible rfl
      simp only [Act.put, List.getElem_toArray, List.getElem_cons_zero, List.getElem_cons_succ, List.setIfInBounds_toArray, List.set_cons_zero, List.set_cons_succ]
      refine wpAnyN_take (i := 5) (v := ?v6) rfl (by kernel_rfl) (by kernel_rfl) (by kernel_rfl) (by kernel_rfl) (fun _ _ _ h => h) (Or.inl ⟨by rfl, ?hy6⟩) (by assumption) ?_
      case hy6 => intro w hSw; obtain ⟨⟨y0, y1, y2, y3, y4⟩, r1, r3⟩ := (show _ ∧ _ ∧ _ from ⟨smBox hSw.1, by have := hSw.2.cell 1; simpa using this, by have := hSw.2.cell 3; simpa using this⟩); go_simp; try with_reducible rfl
      simp only [Act.put, List.getElem_toArray, List.getElem_cons_zero, List.getElem_cons_succ, List.setIfInBounds_toArray, List.set_cons_zero, List.set_cons_succ]
      refine wpAnyN_take (i := 6) (v := ?v7) rfl (by kernel_rfl) (by kernel_rfl) (by kernel_rfl) (by kernel_rfl) (fun _ _ _ h => h) (Or.inl ⟨by rfl, ?hy7⟩) (by assumption) ?_
      case hy7 => intro w hSw; obtain ⟨⟨y0, y1, y2, y3, y4⟩, r1, r3⟩ := (show _ ∧ _ ∧ _ from ⟨smBox hSw.1, by have := hSw.2.cell 1; simpa using this, by have := hSw.2.cell 3; simpa using this⟩); go_simp; try with_reducible rfl
      simp only [Act.put, List.getElem_toArray, List.getElem_cons_zero, List.getElem_cons_succ, List.setIfInBounds_toArray, List.set_cons_zero, List.set_cons_succ]
      refine wpAnyN_one (i := 7) (by kernel_rfl) rfl (fun K hK => ?_)
      simp only [List.getElem_toArray, List.getElem_cons_zero, List.getElem_cons_succ]
      go_simp
      refine (file_any _ s x.file _ (HS.out.next hB0)).mono ?_
      rintro e v1 ⟨rfl, hb1⟩
      have hB1 := bNext hB0 hb1
      have hS1 := SG.next hS0 hb1
      obtain ⟨g0, g1⟩ := HF4.out.below hbf hB1
      rw [HK1x.out]
      refine hK _ _ (fun _ => hS1) ?_
      refine wpAnyN_one (i := 8) (by kernel_rfl) rfl (fun K hK => ?_)
      simp only [List.getElem_toArray, List.getElem_cons_zero, List.getElem_cons_succ]
      go_simp
      refine hK _ _ (fun _ => hS1) ?_
      refine wpAnyN_one (i := 9) (by kernel_rfl) rfl (fun K hK => ?_)
      simp only [List.getElem_toArray, List.getElem_cons_zero, List.getElem_cons_succ]
      go_simp
      refine hK _ _ (fun _ => hS1) ?_
      refine wpAnyN_one (i := 10) (by kernel_rfl) rfl (fun K hK => ?_)
      simp only [List.getElem_toArray, List.getElem_cons_zero, List.getElem_cons_succ]
      go_simp
      refine hK _ _ (fun _ => hS1) ?_
      refine wpAnyN_one (i := 11) (by kernel_rfl) rfl (fun K hK => ?_)
      simp only [List.getElem_toArray, List.getElem_cons_zero, List.getElem_cons_succ]
      go_simp
      refine hK _ _ (fun _ => hS1) ?_
      refine wpAnyN_one (i := 12) (by kernel_rfl) rfl (fun K hK => ?_)
      simp only [List.getElem_toArray, List.getElem_cons_zero, List.getElem_cons_succ]
      go_simp
      refine hK _ _ (fun _ => hS1) ?_
      refine wpAnyN_one (i := 13) (by kernel_rfl) rfl (fun K hK => ?_)
      simp only [List.getElem_toArray, List.getElem_cons_zero, List.getElem_cons_succ]
      go_simp
      refine hK _ _ (fun _ => hS1) ?_
      refine wpAnyN_one (i := 14) (by kernel_rfl) rfl (fun K hK => ?_)
      simp only [List.getElem_toArray, List.getElem_cons_zero, List.getElem_cons_succ]
      go_simp
      refine hK _ _ (fun _ => hS1) ?_
      refine wpAnyN_done (by kernel_rfl) ?_ _
      have HB3 := Lib.hid hB1
      clear hB0 hS0 hS1 hB1 hb1
      go_wp2_with fail
      go_ret2
      exact ⟨by rw [HR.out]; rfl, HB3.out⟩
    · have HR := Lib.hid (show atEndV s id = .error 5 by rw [HRA.out, hm]; rfl)
      have HM := Lib.hid hm
      go_wp2_with fail
      go_ret2
      exact ⟨by rw [HR.out]; rfl, HB1.out.alloc (by omega) _⟩

set_option maxHeartbeats 4000000 in
theorem rest_any (v : Value) (s : Sm) (id : Int) (w : World) (hs : SmAt w w.heap.size v s) :
    Calls Try.prog 17 #[v, .int .i64 id] w fun e w' => e = .returned (.tuple #[.string (restV s id true), .int .i64 (errOf (readV s id true))]) ∧ Below w.heap.size w w' := by
  obtain ⟨A0, c0, A1, c1, rfl, hcap, h0, h1⟩ := hs
  have HS : Hid (SmAt w w.heap.size (smV A0 A1 c0 c1 s) s) := ⟨A0, c0, A1, c1, rfl, hcap, h0, h1⟩
  have HA := Lib.hid h0
  have HO := Lib.hid h1
  have hfl := h0.1.2
  have hol := h1.1.2
  clear h0 h1 hcap
  clear HA HO
  have HN := Lib.hid (bAlloc w (smO A0 A1 c0 c1 s))
  have HK : Hid (Blk (w.alloc (smO A0 A1 c0 c1 s)) w.heap.size 25 #[.slice A0 s.files.length c0, .slice A1 s.opn.length c1, .int .i64 s.inp, .int .i64 s.out, .int .i64 s.nxt]) := Blk.new _ _ _
  go_enter Try.func17, Try.ntmps17
  go_wp2_with fail
  refine (readable_any _ s id true _ (HS.out.next HN.out)).mono ?_
  rintro e w1 ⟨rfl, hb1⟩
  have HB1 := Lib.hid (bNext HN.out hb1)
  have HK1 := Lib.hid (HK.out.next hb1)
  obtain ⟨p0, p1, p2, p3, p4⟩ := smBox HK1.out
  have hz1 := HK1.out.lt
  clear hb1
  go_wp2_with fail
  go_ret2
  exact ⟨rfl, HB1.out⟩

set_option maxHeartbeats 4000000 in
theorem find_any (v : Value) (s : Sm) (name : ByteArray) (w : World) (hs : SmAt w w.heap.size v s) :
    Calls Try.prog 20 #[v, .string name] w fun e w' => e = .returned (.tuple #[.int .i64 ((findV s name).getD 0), .bool (findV s name).isSome]) ∧ Below w.heap.size w w' := by
  obtain ⟨A0, c0, A1, c1, rfl, hcap, h0, h1⟩ := hs
  have HS : Hid (SmAt w w.heap.size (smV A0 A1 c0 c1 s) s) := ⟨A0, c0, A1, c1, rfl, hcap, h0, h1⟩
  have HA := Lib.hid h0
  have HO := Lib.hid h1
  have hfl := h0.1.2
  have hol := h1.1.2
  clear h0 h1 hcap
  have HN := Lib.hid (bAlloc w (smO A0 A1 c0 c1 s))
  have HK : Hid (Blk (w.alloc (smO A0 A1 c0 c1 s)) w.heap.size 25 #[.slice A0 s.files.length c0, .slice A1 s.opn.length c1, .int .i64 s.inp, .int .i64 s.out, .int .i64 s.nxt]) := Blk.new _ _ _
  have HN2 := Lib.hid (HN.out.alloc (by simp) (.cells #[.string name] 9))
  have HKN : Hid (Blk ((w.alloc (smO A0 A1 c0 c1 s)).alloc (.cells #[.string name] 9)) (w.heap.size + 1) 9 #[.string name]) := by
    have h := Blk.new (w.alloc (smO A0 A1 c0 c1 s)) 9 #[.string name]
    rw [World.size_alloc] at h; exact h
  go_enter Try.func20, Try.ntmps20
  go_wp2_with fail
  refine (valid_any _ s _ (HS.out.next HN2.out)).mono ?_
  rintro e w1 ⟨rfl, hb1⟩
  have HB1 := Lib.hid (bNext HN2.out hb1)
  have HK1 := Lib.hid ((HK.out.alloc (.cells #[.string name] 9)).next hb1)
  have HKN1 := Lib.hid (HKN.out.next hb1)
  obtain ⟨p0, p1, p2, p3, p4⟩ := smBox HK1.out
  have hz0 := HK1.out.lt
  have hz1 := HKN1.out.lt
  have hn := HKN1.out.cell 0
  simp at hn
  clear hb1
  cases hv : validB s
  · have HR := Lib.hid (show findV s name = none by simp [findV, hv])
    go_wp2_with fail
    go_ret2
    exact ⟨by rw [HR.out]; rfl, HB1.out⟩
  · cases he : name.toList.isEmpty
    · have he2 : (!name.toList.isEmpty) = true := by rw [he]; rfl
      have HV := Lib.hid hv
      go_wp2_with fail
      refine (index50_any A1 s.opn.length c1 s.opn (w.heap.size + 1) name _ (HO.out.next HB1.out) hz1 hn).mono ?_
      rintro e w2 ⟨rfl, hb2⟩
      have HB2 := Lib.hid (bNext HB1.out hb2)
      have HK2 := Lib.hid (HK1.out.next hb2)
      clear p0 p1 p2 p3 p4 hn hb2 hz0 hz1
      obtain ⟨p0, p1, p2, p3, p4⟩ := smBox HK2.out
      have hz0 := HK2.out.lt
      cases hf : s.opn.findIdx? (aliasP name) with
      | none =>
        have HR := Lib.hid (show findV s name = none by simp [findV, HV.out, he, hf])
        rw [idxI_none hf]
        clear hf hv he2 he
        go_wp2_with fail
        go_ret2
        exact ⟨by rw [HR.out]; rfl, HB2.out⟩
      | some i =>
        obtain ⟨hil, -, -⟩ := List.findIdx?_eq_some_iff_getElem.1 hf
        have hx : s.opn[i]? = some s.opn[i] := List.getElem?_eq_getElem hil
        have HR := Lib.hid (show findV s name = some s.opn[i].id by simp [findV, HV.out, he, hf, hx])
        obtain ⟨x, hxe⟩ : ∃ x, s.opn[i] = x := ⟨_, rfl⟩
        rw [hxe] at HR hx
        rw [idxI_some hf]
        obtain ⟨b, off, x', rfl, hb, hx', hx4⟩ := HO.out.at hil
        rw [hx] at hx'
        injection hx' with hx'
        subst hx'
        obtain ⟨q0, q1, q2, q3, q4, q5, q6⟩ := hx4.below hb HB2.out
        have hd : decide ((i : Int) < 0) = false := by simp
        have hili : (i : Int) < (s.opn.length : Int) := by omega
        clear hf hv he2 he hx hxe hx4
        go_wp2_with fail
        go_ret2
        exact ⟨by rw [HR.out]; rfl, HB2.out⟩
    · have he2 : (!name.toList.isEmpty) = false := by rw [he]; rfl
      have HR := Lib.hid (show findV s name = none by simp [findV, he])
      go_wp2_with fail
      go_ret2
      exact ⟨by rw [HR.out]; rfl, HB1.out⟩

set_option maxHeartbeats 4000000 in
theorem text_any (v : Value) (s : Sm) (name : ByteArray) (w : World) (hs : SmAt w w.heap.size v s) :
    Calls Try.prog 21 #[v, .string name] w fun e w' => e = .returned (.tuple #[.string ((textV s name).getD .empty), .bool (textV s name).isSome]) ∧ Below w.heap.size w w' := by
  obtain ⟨A0, c0, A1, c1, rfl, hcap, h0, h1⟩ := hs
  have HS : Hid (SmAt w w.heap.size (smV A0 A1 c0 c1 s) s) := ⟨A0, c0, A1, c1, rfl, hcap, h0, h1⟩
  have HA := Lib.hid h0
  have HO := Lib.hid h1
  have hfl := h0.1.2
  have hol := h1.1.2
  clear h0 h1 hcap
  have HN := Lib.hid (bAlloc w (smO A0 A1 c0 c1 s))
  have HK : Hid (Blk (w.alloc (smO A0 A1 c0 c1 s)) w.heap.size 25 #[.slice A0 s.files.length c0, .slice A1 s.opn.length c1, .int .i64 s.inp, .int .i64 s.out, .int .i64 s.nxt]) := Blk.new _ _ _
  go_enter Try.func21, Try.ntmps21
  go_wp2_with fail
  refine (valid_any _ s _ (HS.out.next HN.out)).mono ?_
  rintro e w1 ⟨rfl, hb1⟩
  have HB1 := Lib.hid (bNext HN.out hb1)
  have HK1 := Lib.hid (HK.out.next hb1)
  obtain ⟨p0, p1, p2, p3, p4⟩ := smBox HK1.out
  have hz1 := HK1.out.lt
  clear hb1
  cases hv : validB s
  · have HR := Lib.hid (show textV s name = none by simp [textV, hv])
    go_wp2_with fail
    go_ret2
    exact ⟨by rw [HR.out]; rfl, HB1.out⟩
  · have HV := Lib.hid hv
    go_wp2_with fail
    refine (file_any _ s name _ (HS.out.next HB1.out)).mono ?_
    rintro e w2 ⟨rfl, hb2⟩
    have HB2 := Lib.hid (bNext HB1.out hb2)
    have HK2 := Lib.hid (HK1.out.next hb2)
    clear p0 p1 p2 p3 p4 hb2 hz1
    obtain ⟨p0, p1, p2, p3, p4⟩ := smBox HK2.out
    have hz0 := HK2.out.lt
    cases hf : s.files.findIdx? (fileP name) with
    | none =>
      have HR := Lib.hid (show textV s name = none by simp [textV, HV.out, hf])
      rw [idxI_none hf]
      clear hf hv
      go_wp2_with fail
      go_ret2
      exact ⟨by rw [HR.out]; rfl, HB2.out⟩
    | some i =>
      obtain ⟨hil, -, -⟩ := List.findIdx?_eq_some_iff_getElem.1 hf
      have hx : s.files[i]? = some s.files[i] := List.getElem?_eq_getElem hil
      have HR := Lib.hid (show textV s name = some s.files[i].text by simp [textV, HV.out, hf, hx])
      obtain ⟨x, hxe⟩ : ∃ x, s.files[i] = x := ⟨_, rfl⟩
      rw [hxe] at HR hx
      rw [idxI_some hf]
      obtain ⟨b, off, x', rfl, hb, hx', hx4⟩ := HA.out.at hil
      rw [hx] at hx'
      injection hx' with hx'
      subst hx'
      obtain ⟨q0, q1⟩ := hx4.below hb HB2.out
      have hd : decide ((i : Int) < 0) = false := by simp
      have hili : (i : Int) < (s.files.length : Int) := by omega
      clear hf hv hx hxe hx4
      go_wp2_with fail
      go_ret2
      exact ⟨by rw [HR.out]; rfl, HB2.out⟩
end Go.Proofs.Ytklpghpfdeojeaa
