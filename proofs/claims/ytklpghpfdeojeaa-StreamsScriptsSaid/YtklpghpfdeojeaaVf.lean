/-
  Walks: Skip, Peek, Put of the reference.
-/
import Derived.Test.YtklpghpfdeojeaaVc
import Derived.BigQuiet
import Derived.Deep.QuietTactic
namespace Go.Proofs.Ytklpghpfdeojeaa
open Go.RowKit
theorem skip_off {s : Sm} {id n : Int} (h : validB s = false ∨ n < 0) : skipV s id n = .error 1 := by
  have h1 : (validB s && decide (0 ≤ n)) = false := by
    rcases h with h | h
    · rw [h]; rfl
    · rw [decide_eq_false (by omega), Bool.and_false]
  have h2 : askV s id (decide (0 ≤ n)) = .error 1 := by unfold askV; rw [h1]; rfl
  unfold skipV readV
  rw [h2]
theorem skip_on {s : Sm} {id n : Int} (h : 0 ≤ n) : skipV s id n = match readV s id true with
  | .error e => .error e
  | .ok i => match s.opn[i]? with
    | some x => if ((restT s x).size : Int) < n then .error 14 else .ok { s with opn := s.opn.set i { x with pos := x.pos + n } }
    | none => .error 5 := by
  unfold skipV
  rw [decide_eq_true h]
  rfl
theorem put_off {s : Sm} {id : Int} {t : ByteArray} (h : validB s = false ∨ ¬ (t.size : Int) ≤ 16384) : putV s id t = .error 1 := by
  have h1 : (validB s && decide ((t.size : Int) ≤ 16384)) = false := by
    rcases h with h | h
    · rw [h]; rfl
    · rw [decide_eq_false h, Bool.and_false]
  have h2 : askV s id (decide ((t.size : Int) ≤ 16384)) = .error 1 := by unfold askV; rw [h1]; rfl
  unfold putV
  rw [h2]
theorem put_on {s : Sm} {id : Int} {t : ByteArray} (h : (t.size : Int) ≤ 16384) : putV s id t = match askV s id true with
  | .error e => .error e
  | .ok i => match s.opn[i]? with
    | some x => if x.mode == 1 then .error 5 else if 16384 < (fileOf s x).text.size + t.size then .error 13 else .ok (putS s x t)
    | none => .error 5 := by
  unfold putV
  rw [decide_eq_true h]
  rfl

set_option maxHeartbeats 4000000 in
theorem Skip_any (v : Value) (s : Sm) (id n : Int) (w : World) (hs : SmAt w w.heap.size v s) :
    Calls Try.prog 60 #[v, .int .i64 id, .int .i64 n] w (RetS (skipV s id n) w) := by
  obtain ⟨A0, c0, A1, c1, rfl, hcap, h0, h1⟩ := hs
  have HS : Hid (SmAt w w.heap.size (smV A0 A1 c0 c1 s) s) := ⟨A0, c0, A1, c1, rfl, hcap, h0, h1⟩
  have HA := Lib.hid h0
  have HO := Lib.hid h1
  have hfl := h0.1.2
  have hol := h1.1.2
  clear h0 h1 hcap
  cases hvl : validB s
  case false =>
    have HR := Lib.hid (skip_off (id := id) (n := n) (.inl hvl))
    obtain ⟨W, HWd⟩ : ∃ W, Hid (W = ((w.alloc (.cells #[.slice A0 s.files.length c0, .slice A1 s.opn.length c1, .int .i64 s.inp, .int .i64 s.out, .int .i64 s.nxt] 25)).alloc (.cells #[.slice none 0 0, .slice none 0 0, .int .i64 0, .int .i64 0, .int .i64 0] 25))) := ⟨_, rfl⟩
    have hbW : Below w.heap.size w W := by
      rw [HWd.out]
      exact (Below.alloc (bAlloc w _) (by simp) _)
    have hzW : W.heap.size = w.heap.size + 2 := by rw [HWd.out]; simp
    have k0 : Blk W w.heap.size 25 #[.slice A0 s.files.length c0, .slice A1 s.opn.length c1, .int .i64 s.inp, .int .i64 s.out, .int .i64 s.nxt] := by rw [HWd.out]; exact (Blk.alloc (Blk.new _ _ _) (.cells #[.slice none 0 0, .slice none 0 0, .int .i64 0, .int .i64 0, .int .i64 0] 25))
    have k1 : Blk W (w.heap.size + 1) 25 #[.slice none 0 0, .slice none 0 0, .int .i64 0, .int .i64 0, .int .i64 0] := by
      have h := (Blk.new (w.alloc (.cells #[.slice A0 s.files.length c0, .slice A1 s.opn.length c1, .int .i64 s.inp, .int .i64 s.out, .int .i64 s.nxt] 25)) 25 #[.slice none 0 0, .slice none 0 0, .int .i64 0, .int .i64 0, .int .i64 0])
      rw [World.size_alloc] at h
      rw [HWd.out]; exact h
    have HBW := Lib.hid hbW
    clear hbW
    go_enter Try.func60, Try.ntmps60
    go_wp2_with fail
    rw [← HWd.out]
    refine (rvalid_any _ s _ (HS.out.next HBW.out)).mono ?_
    rintro e w1 ⟨rfl, hb1⟩
    have HB1 := Lib.hid (bNext HBW.out hb1)
    have k01 := k0.next hb1
    have k11 := k1.next hb1
    clear hb1 k0 k1
    obtain ⟨p0, p1, p2, p3, p4⟩ := smBox k01
    have z0 := k11.cell 0
    have z1 := k11.cell 1
    have z2 := k11.cell 2
    have z3 := k11.cell 3
    have z4 := k11.cell 4
    simp at z0 z1 z2 z3 z4
    have g0 := k11.frozen 0
    have g1 := k11.frozen 1
    have g2 := k11.frozen 2
    have g3 := k11.frozen 3
    have g4 := k11.frozen 4
    have zz := k11.lt
    have hz0 : w.heap.size < w1.heap.size := by omega
    rw [hvl]
    go_wp2_with fail
    refine bodyPost_ret (v := .tuple #[zV, .int .i64 1]) (by simp only [results, Try.results60]; go_simp) rfl (RetS.bad HR.out ?_)
    repeat (first | (with_reducible exact HB1.out) | ((with_reducible refine Below.setCell ?_ ?_ _); rotate_left; focus (first | (simp; done) | (simp; omega))) | ((with_reducible refine Below.alloc ?_ ?_ _); rotate_left; focus (first | (simp; done) | (simp; omega))))
  case true =>
    have HVL := Lib.hid hvl
    by_cases hn : n < 0
    case pos =>
      have HR := Lib.hid (skip_off (s := s) (id := id) (.inr hn))
      clear hvl
      obtain ⟨W, HWd⟩ : ∃ W, Hid (W = ((w.alloc (.cells #[.slice A0 s.files.length c0, .slice A1 s.opn.length c1, .int .i64 s.inp, .int .i64 s.out, .int .i64 s.nxt] 25)).alloc (.cells #[.slice none 0 0, .slice none 0 0, .int .i64 0, .int .i64 0, .int .i64 0] 25))) := ⟨_, rfl⟩
      have hbW : Below w.heap.size w W := by
        rw [HWd.out]
        exact (Below.alloc (bAlloc w _) (by simp) _)
      have hzW : W.heap.size = w.heap.size + 2 := by rw [HWd.out]; simp
      have k0 : Blk W w.heap.size 25 #[.slice A0 s.files.length c0, .slice A1 s.opn.length c1, .int .i64 s.inp, .int .i64 s.out, .int .i64 s.nxt] := by rw [HWd.out]; exact (Blk.alloc (Blk.new _ _ _) (.cells #[.slice none 0 0, .slice none 0 0, .int .i64 0, .int .i64 0, .int .i64 0] 25))
      have k1 : Blk W (w.heap.size + 1) 25 #[.slice none 0 0, .slice none 0 0, .int .i64 0, .int .i64 0, .int .i64 0] := by
        have h := (Blk.new (w.alloc (.cells #[.slice A0 s.files.length c0, .slice A1 s.opn.length c1, .int .i64 s.inp, .int .i64 s.out, .int .i64 s.nxt] 25)) 25 #[.slice none 0 0, .slice none 0 0, .int .i64 0, .int .i64 0, .int .i64 0])
        rw [World.size_alloc] at h
        rw [HWd.out]; exact h
      have HBW := Lib.hid hbW
      clear hbW
      go_enter Try.func60, Try.ntmps60
      go_wp2_with fail
      rw [← HWd.out]
      refine (rvalid_any _ s _ (HS.out.next HBW.out)).mono ?_
      rintro e w1 ⟨rfl, hb1⟩
      have HB1 := Lib.hid (bNext HBW.out hb1)
      have k01 := k0.next hb1
      have k11 := k1.next hb1
      clear hb1 k0 k1
      obtain ⟨p0, p1, p2, p3, p4⟩ := smBox k01
      have z0 := k11.cell 0
      have z1 := k11.cell 1
      have z2 := k11.cell 2
      have z3 := k11.cell 3
      have z4 := k11.cell 4
      simp at z0 z1 z2 z3 z4
      have g0 := k11.frozen 0
      have g1 := k11.frozen 1
      have g2 := k11.frozen 2
      have g3 := k11.frozen 3
      have g4 := k11.frozen 4
      have zz := k11.lt
      have hz0 : w.heap.size < w1.heap.size := by omega
      rw [HVL.out]
      go_wp2_with fail
      refine bodyPost_ret (v := .tuple #[zV, .int .i64 1]) (by simp only [results, Try.results60]; go_simp) rfl (RetS.bad HR.out ?_)
      repeat (first | (with_reducible exact HB1.out) | ((with_reducible refine Below.setCell ?_ ?_ _); rotate_left; focus (first | (simp; done) | (simp; omega))) | ((with_reducible refine Below.alloc ?_ ?_ _); rotate_left; focus (first | (simp; done) | (simp; omega))))
    case neg =>
      have hn0 : 0 ≤ n := by omega
      cases ha : readV s id true with
      | error er =>
        have HR := Lib.hid (show skipV s id n = .error er by rw [skip_on hn0, ha])
        have HA2 := Lib.hid ha
        rcases readV_er ha with rfl | rfl | rfl
        · clear ha hvl
          obtain ⟨W, HWd⟩ : ∃ W, Hid (W = ((w.alloc (.cells #[.slice A0 s.files.length c0, .slice A1 s.opn.length c1, .int .i64 s.inp, .int .i64 s.out, .int .i64 s.nxt] 25)).alloc (.cells #[.slice none 0 0, .slice none 0 0, .int .i64 0, .int .i64 0, .int .i64 0] 25))) := ⟨_, rfl⟩
          have hbW : Below w.heap.size w W := by
            rw [HWd.out]
            exact (Below.alloc (bAlloc w _) (by simp) _)
          have hzW : W.heap.size = w.heap.size + 2 := by rw [HWd.out]; simp
          have k0 : Blk W w.heap.size 25 #[.slice A0 s.files.length c0, .slice A1 s.opn.length c1, .int .i64 s.inp, .int .i64 s.out, .int .i64 s.nxt] := by rw [HWd.out]; exact (Blk.alloc (Blk.new _ _ _) (.cells #[.slice none 0 0, .slice none 0 0, .int .i64 0, .int .i64 0, .int .i64 0] 25))
          have k1 : Blk W (w.heap.size + 1) 25 #[.slice none 0 0, .slice none 0 0, .int .i64 0, .int .i64 0, .int .i64 0] := by
            have h := (Blk.new (w.alloc (.cells #[.slice A0 s.files.length c0, .slice A1 s.opn.length c1, .int .i64 s.inp, .int .i64 s.out, .int .i64 s.nxt] 25)) 25 #[.slice none 0 0, .slice none 0 0, .int .i64 0, .int .i64 0, .int .i64 0])
            rw [World.size_alloc] at h
            rw [HWd.out]; exact h
          have HBW := Lib.hid hbW
          clear hbW
          go_enter Try.func60, Try.ntmps60
          go_wp2_with fail
          rw [← HWd.out]
          refine (rvalid_any _ s _ (HS.out.next HBW.out)).mono ?_
          rintro e w1 ⟨rfl, hb1⟩
          have HB1 := Lib.hid (bNext HBW.out hb1)
          have k01 := k0.next hb1
          have k11 := k1.next hb1
          clear hb1 k0 k1
          obtain ⟨p0, p1, p2, p3, p4⟩ := smBox k01
          have z0 := k11.cell 0
          have z1 := k11.cell 1
          have z2 := k11.cell 2
          have z3 := k11.cell 3
          have z4 := k11.cell 4
          simp at z0 z1 z2 z3 z4
          have g0 := k11.frozen 0
          have g1 := k11.frozen 1
          have g2 := k11.frozen 2
          have g3 := k11.frozen 3
          have g4 := k11.frozen 4
          have zz := k11.lt
          have hz0 : w.heap.size < w1.heap.size := by omega
          rw [HVL.out]
          go_wp2_with fail
          refine (input_bad HA2.out _ _ (HS.out.next HB1.out)).mono ?_
          rintro e w2 ⟨rfl, hb2⟩
          have HB2 := Lib.hid (bNext HB1.out hb2)
          have k02 := k01.next hb2
          have k12 := k11.next hb2
          clear hb2 k01 k11
          clear p0 p1 p2 p3 p4 z0 z1 z2 z3 z4 g0 g1 g2 g3 g4 zz hz0
          obtain ⟨p0, p1, p2, p3, p4⟩ := smBox k02
          have z0 := k12.cell 0
          have z1 := k12.cell 1
          have z2 := k12.cell 2
          have z3 := k12.cell 3
          have z4 := k12.cell 4
          simp at z0 z1 z2 z3 z4
          have g0 := k12.frozen 0
          have g1 := k12.frozen 1
          have g2 := k12.frozen 2
          have g3 := k12.frozen 3
          have g4 := k12.frozen 4
          have zz := k12.lt
          have hz0 : w.heap.size < w2.heap.size := by omega
          go_wp2_with fail
          refine bodyPost_ret (v := .tuple #[zV, .int .i64 1]) (by simp only [results, Try.results60]; go_simp) rfl (RetS.bad HR.out ?_)
          repeat (first | (with_reducible exact HB2.out) | ((with_reducible refine Below.setCell ?_ ?_ _); rotate_left; focus (first | (simp; done) | (simp; omega))) | ((with_reducible refine Below.alloc ?_ ?_ _); rotate_left; focus (first | (simp; done) | (simp; omega))))
        · clear ha hvl
          obtain ⟨W, HWd⟩ : ∃ W, Hid (W = ((w.alloc (.cells #[.slice A0 s.files.length c0, .slice A1 s.opn.length c1, .int .i64 s.inp, .int .i64 s.out, .int .i64 s.nxt] 25)).alloc (.cells #[.slice none 0 0, .slice none 0 0, .int .i64 0, .int .i64 0, .int .i64 0] 25))) := ⟨_, rfl⟩
          have hbW : Below w.heap.size w W := by
            rw [HWd.out]
            exact (Below.alloc (bAlloc w _) (by simp) _)
          have hzW : W.heap.size = w.heap.size + 2 := by rw [HWd.out]; simp
          have k0 : Blk W w.heap.size 25 #[.slice A0 s.files.length c0, .slice A1 s.opn.length c1, .int .i64 s.inp, .int .i64 s.out, .int .i64 s.nxt] := by rw [HWd.out]; exact (Blk.alloc (Blk.new _ _ _) (.cells #[.slice none 0 0, .slice none 0 0, .int .i64 0, .int .i64 0, .int .i64 0] 25))
          have k1 : Blk W (w.heap.size + 1) 25 #[.slice none 0 0, .slice none 0 0, .int .i64 0, .int .i64 0, .int .i64 0] := by
            have h := (Blk.new (w.alloc (.cells #[.slice A0 s.files.length c0, .slice A1 s.opn.length c1, .int .i64 s.inp, .int .i64 s.out, .int .i64 s.nxt] 25)) 25 #[.slice none 0 0, .slice none 0 0, .int .i64 0, .int .i64 0, .int .i64 0])
            rw [World.size_alloc] at h
            rw [HWd.out]; exact h
          have HBW := Lib.hid hbW
          clear hbW
          go_enter Try.func60, Try.ntmps60
          go_wp2_with fail
          rw [← HWd.out]
          refine (rvalid_any _ s _ (HS.out.next HBW.out)).mono ?_
          rintro e w1 ⟨rfl, hb1⟩
          have HB1 := Lib.hid (bNext HBW.out hb1)
          have k01 := k0.next hb1
          have k11 := k1.next hb1
          clear hb1 k0 k1
          obtain ⟨p0, p1, p2, p3, p4⟩ := smBox k01
          have z0 := k11.cell 0
          have z1 := k11.cell 1
          have z2 := k11.cell 2
          have z3 := k11.cell 3
          have z4 := k11.cell 4
          simp at z0 z1 z2 z3 z4
          have g0 := k11.frozen 0
          have g1 := k11.frozen 1
          have g2 := k11.frozen 2
          have g3 := k11.frozen 3
          have g4 := k11.frozen 4
          have zz := k11.lt
          have hz0 : w.heap.size < w1.heap.size := by omega
          rw [HVL.out]
          go_wp2_with fail
          refine (input_bad HA2.out _ _ (HS.out.next HB1.out)).mono ?_
          rintro e w2 ⟨rfl, hb2⟩
          have HB2 := Lib.hid (bNext HB1.out hb2)
          have k02 := k01.next hb2
          have k12 := k11.next hb2
          clear hb2 k01 k11
          clear p0 p1 p2 p3 p4 z0 z1 z2 z3 z4 g0 g1 g2 g3 g4 zz hz0
          obtain ⟨p0, p1, p2, p3, p4⟩ := smBox k02
          have z0 := k12.cell 0
          have z1 := k12.cell 1
          have z2 := k12.cell 2
          have z3 := k12.cell 3
          have z4 := k12.cell 4
          simp at z0 z1 z2 z3 z4
          have g0 := k12.frozen 0
          have g1 := k12.frozen 1
          have g2 := k12.frozen 2
          have g3 := k12.frozen 3
          have g4 := k12.frozen 4
          have zz := k12.lt
          have hz0 : w.heap.size < w2.heap.size := by omega
          go_wp2_with fail
          refine bodyPost_ret (v := .tuple #[zV, .int .i64 4]) (by simp only [results, Try.results60]; go_simp) rfl (RetS.bad HR.out ?_)
          repeat (first | (with_reducible exact HB2.out) | ((with_reducible refine Below.setCell ?_ ?_ _); rotate_left; focus (first | (simp; done) | (simp; omega))) | ((with_reducible refine Below.alloc ?_ ?_ _); rotate_left; focus (first | (simp; done) | (simp; omega))))
        · clear ha hvl
          obtain ⟨W, HWd⟩ : ∃ W, Hid (W = ((w.alloc (.cells #[.slice A0 s.files.length c0, .slice A1 s.opn.length c1, .int .i64 s.inp, .int .i64 s.out, .int .i64 s.nxt] 25)).alloc (.cells #[.slice none 0 0, .slice none 0 0, .int .i64 0, .int .i64 0, .int .i64 0] 25))) := ⟨_, rfl⟩
          have hbW : Below w.heap.size w W := by
            rw [HWd.out]
            exact (Below.alloc (bAlloc w _) (by simp) _)
          have hzW : W.heap.size = w.heap.size + 2 := by rw [HWd.out]; simp
          have k0 : Blk W w.heap.size 25 #[.slice A0 s.files.length c0, .slice A1 s.opn.length c1, .int .i64 s.inp, .int .i64 s.out, .int .i64 s.nxt] := by rw [HWd.out]; exact (Blk.alloc (Blk.new _ _ _) (.cells #[.slice none 0 0, .slice none 0 0, .int .i64 0, .int .i64 0, .int .i64 0] 25))
          have k1 : Blk W (w.heap.size + 1) 25 #[.slice none 0 0, .slice none 0 0, .int .i64 0, .int .i64 0, .int .i64 0] := by
            have h := (Blk.new (w.alloc (.cells #[.slice A0 s.files.length c0, .slice A1 s.opn.length c1, .int .i64 s.inp, .int .i64 s.out, .int .i64 s.nxt] 25)) 25 #[.slice none 0 0, .slice none 0 0, .int .i64 0, .int .i64 0, .int .i64 0])
            rw [World.size_alloc] at h
            rw [HWd.out]; exact h
          have HBW := Lib.hid hbW
          clear hbW
          go_enter Try.func60, Try.ntmps60
          go_wp2_with fail
          rw [← HWd.out]
          refine (rvalid_any _ s _ (HS.out.next HBW.out)).mono ?_
          rintro e w1 ⟨rfl, hb1⟩
          have HB1 := Lib.hid (bNext HBW.out hb1)
          have k01 := k0.next hb1
          have k11 := k1.next hb1
          clear hb1 k0 k1
          obtain ⟨p0, p1, p2, p3, p4⟩ := smBox k01
          have z0 := k11.cell 0
          have z1 := k11.cell 1
          have z2 := k11.cell 2
          have z3 := k11.cell 3
          have z4 := k11.cell 4
          simp at z0 z1 z2 z3 z4
          have g0 := k11.frozen 0
          have g1 := k11.frozen 1
          have g2 := k11.frozen 2
          have g3 := k11.frozen 3
          have g4 := k11.frozen 4
          have zz := k11.lt
          have hz0 : w.heap.size < w1.heap.size := by omega
          rw [HVL.out]
          go_wp2_with fail
          refine (input_bad HA2.out _ _ (HS.out.next HB1.out)).mono ?_
          rintro e w2 ⟨rfl, hb2⟩
          have HB2 := Lib.hid (bNext HB1.out hb2)
          have k02 := k01.next hb2
          have k12 := k11.next hb2
          clear hb2 k01 k11
          clear p0 p1 p2 p3 p4 z0 z1 z2 z3 z4 g0 g1 g2 g3 g4 zz hz0
          obtain ⟨p0, p1, p2, p3, p4⟩ := smBox k02
          have z0 := k12.cell 0
          have z1 := k12.cell 1
          have z2 := k12.cell 2
          have z3 := k12.cell 3
          have z4 := k12.cell 4
          simp at z0 z1 z2 z3 z4
          have g0 := k12.frozen 0
          have g1 := k12.frozen 1
          have g2 := k12.frozen 2
          have g3 := k12.frozen 3
          have g4 := k12.frozen 4
          have zz := k12.lt
          have hz0 : w.heap.size < w2.heap.size := by omega
          go_wp2_with fail
          refine bodyPost_ret (v := .tuple #[zV, .int .i64 5]) (by simp only [results, Try.results60]; go_simp) rfl (RetS.bad HR.out ?_)
          repeat (first | (with_reducible exact HB2.out) | ((with_reducible refine Below.setCell ?_ ?_ _); rotate_left; focus (first | (simp; done) | (simp; omega))) | ((with_reducible refine Below.alloc ?_ ?_ _); rotate_left; focus (first | (simp; done) | (simp; omega))))
      | ok i =>
        obtain ⟨hask, x, hx, hid, hmode, -⟩ := readV_ok ha
        obtain ⟨hv, hok, -, -⟩ := askV_ok hask
        have HRS := Lib.hid (show skipV s id n = if ((restT s x).size : Int) < n then .error 14 else .ok { s with opn := s.opn.set i { x with pos := x.pos + n } } by rw [skip_on hn0, ha]; simp only [hx])
        have HA2 := Lib.hid ha
        clear hask hok ha hid hvl
        have hil := (List.getElem?_eq_some_iff.1 hx).1
        obtain ⟨k, hk1, hk2, hk3, hk4, hk5⟩ := valid_file hv hx
        have hkl := (List.getElem?_eq_some_iff.1 hk2).1
        obtain ⟨hvf, hvo, hvn1, hvn2, -, -⟩ := valid_head hv
        obtain ⟨b, off, x', rfl, hb, hx', hx4⟩ := HO.out.at hil
        rw [hx] at hx'
        injection hx' with hx'
        subst hx'
        obtain ⟨bf, offf, f', rfl, hbf, hf', hf4⟩ := HA.out.at hkl
        rw [hk2] at hf'
        injection hf' with hf'
        obtain ⟨f, hfd⟩ : ∃ f, fileOf s x = f := ⟨_, rfl⟩
        rw [hfd] at hf' hk2 hk3 hk4 hk5
        subst hf'
        have HFD := Lib.hid hfd
        have HX := Lib.hid hx
        have HV := Lib.hid hv
        have HX4 := Lib.hid hx4
        have HF4 := Lib.hid hf4
        have HK1x := Lib.hid hk1
        have HK2x := Lib.hid hk2
        have HK5x := Lib.hid hk5
        clear hk1 hk2 hk3 hk5 hv hx hfd hx4 hf4
        have hili : (i : Int) < (s.opn.length : Int) := by omega
        have hkli : (k : Int) < (s.files.length : Int) := by omega
        have hp := HK5x.out hmode
        have HME := Lib.hid hmode
        have hrs : ((restT s x).size : Int) = f.text.size - x.pos := by have h := restT_size (s := s) (x := x) (by rw [HFD.out]; exact hp); rw [HFD.out] at h; exact h
        obtain ⟨t, ht⟩ : ∃ t, restT s x = t := ⟨_, rfl⟩
        rw [ht] at hrs HRS
        have HT := Lib.hid ht
        clear ht hmode
        obtain ⟨W, HWd⟩ : ∃ W, Hid (W = ((w.alloc (.cells #[.slice (some ⟨bf, offf, none⟩) s.files.length c0, .slice (some ⟨b, off, none⟩) s.opn.length c1, .int .i64 s.inp, .int .i64 s.out, .int .i64 s.nxt] 25)).alloc (.cells #[.slice none 0 0, .slice none 0 0, .int .i64 0, .int .i64 0, .int .i64 0] 25))) := ⟨_, rfl⟩
        have hbW : Below w.heap.size w W := by
          rw [HWd.out]
          exact (Below.alloc (bAlloc w _) (by simp) _)
        have hzW : W.heap.size = w.heap.size + 2 := by rw [HWd.out]; simp
        have k0 : Blk W w.heap.size 25 #[.slice (some ⟨bf, offf, none⟩) s.files.length c0, .slice (some ⟨b, off, none⟩) s.opn.length c1, .int .i64 s.inp, .int .i64 s.out, .int .i64 s.nxt] := by rw [HWd.out]; exact (Blk.alloc (Blk.new _ _ _) (.cells #[.slice none 0 0, .slice none 0 0, .int .i64 0, .int .i64 0, .int .i64 0] 25))
        have k1 : Blk W (w.heap.size + 1) 25 #[.slice none 0 0, .slice none 0 0, .int .i64 0, .int .i64 0, .int .i64 0] := by
          have h := (Blk.new (w.alloc (.cells #[.slice (some ⟨bf, offf, none⟩) s.files.length c0, .slice (some ⟨b, off, none⟩) s.opn.length c1, .int .i64 s.inp, .int .i64 s.out, .int .i64 s.nxt] 25)) 25 #[.slice none 0 0, .slice none 0 0, .int .i64 0, .int .i64 0, .int .i64 0])
          rw [World.size_alloc] at h
          rw [HWd.out]; exact h
        have HBW := Lib.hid hbW
        clear hbW
        go_enter Try.func60, Try.ntmps60
        go_wp2_with fail
        rw [← HWd.out]
        refine (rvalid_any _ s _ (HS.out.next HBW.out)).mono ?_
        rintro e w1 ⟨rfl, hb1⟩
        have HB1 := Lib.hid (bNext HBW.out hb1)
        have k01 := k0.next hb1
        have k11 := k1.next hb1
        clear hb1 k0 k1
        obtain ⟨p0, p1, p2, p3, p4⟩ := smBox k01
        have z0 := k11.cell 0
        have z1 := k11.cell 1
        have z2 := k11.cell 2
        have z3 := k11.cell 3
        have z4 := k11.cell 4
        simp at z0 z1 z2 z3 z4
        have g0 := k11.frozen 0
        have g1 := k11.frozen 1
        have g2 := k11.frozen 2
        have g3 := k11.frozen 3
        have g4 := k11.frozen 4
        have zz := k11.lt
        have hz0 : w.heap.size < w1.heap.size := by omega
        rw [HVL.out]
        go_wp2_with fail
        refine (input_good HA2.out _ _ (HS.out.next HB1.out)).mono ?_
        rintro e w2 ⟨rfl, hb2⟩
        have HB2 := Lib.hid (bNext HB1.out hb2)
        have k02 := k01.next hb2
        have k12 := k11.next hb2
        clear hb2 k01 k11
        clear p0 p1 p2 p3 p4 z0 z1 z2 z3 z4 g0 g1 g2 g3 g4 zz hz0
        obtain ⟨p0, p1, p2, p3, p4⟩ := smBox k02
        have z0 := k12.cell 0
        have z1 := k12.cell 1
        have z2 := k12.cell 2
        have z3 := k12.cell 3
        have z4 := k12.cell 4
        simp at z0 z1 z2 z3 z4
        have g0 := k12.frozen 0
        have g1 := k12.frozen 1
        have g2 := k12.frozen 2
        have g3 := k12.frozen 3
        have g4 := k12.frozen 4
        have zz := k12.lt
        have hz0 : w.heap.size < w2.heap.size := by omega
        go_wp2_with fail
        refine (rrest_any _ s i x _ (HS.out.next HB2.out) HV.out HX.out HME.out).mono ?_
        rintro e w3 ⟨rfl, hb3⟩
        rw [HT.out]
        have HB3 := Lib.hid (bNext HB2.out hb3)
        have k03 := k02.next hb3
        have k13 := k12.next hb3
        clear hb3 k02 k12
        clear p0 p1 p2 p3 p4 z0 z1 z2 z3 z4 g0 g1 g2 g3 g4 zz hz0
        obtain ⟨p0, p1, p2, p3, p4⟩ := smBox k03
        have z0 := k13.cell 0
        have z1 := k13.cell 1
        have z2 := k13.cell 2
        have z3 := k13.cell 3
        have z4 := k13.cell 4
        simp at z0 z1 z2 z3 z4
        have g0 := k13.frozen 0
        have g1 := k13.frozen 1
        have g2 := k13.frozen 2
        have g3 := k13.frozen 3
        have g4 := k13.frozen 4
        have zz := k13.lt
        have hz0 : w.heap.size < w3.heap.size := by omega
        by_cases hlt : (t.size : Int) < n
        · have HR := Lib.hid (show skipV s id n = .error 14 by rw [HRS.out, if_pos hlt])
          go_wp2_with fail
          refine bodyPost_ret (v := .tuple #[zV, .int .i64 14]) (by simp only [results, Try.results60]; go_simp) rfl (RetS.bad HR.out ?_)
          repeat (first | (with_reducible exact HB3.out) | ((with_reducible refine Below.setCell ?_ ?_ _); rotate_left; focus (first | (simp; done) | (simp; omega))) | ((with_reducible refine Below.alloc ?_ ?_ _); rotate_left; focus (first | (simp; done) | (simp; omega))))
        · have HR := Lib.hid (show skipV s id n = .ok { s with opn := s.opn.set i { x with pos := x.pos + n } } by rw [HRS.out, if_neg hlt])
          go_wp2_with fail
          refine (clone_own _ s _ (HS.out.next HB3.out)).mono ?_
          rintro e wq ⟨⟨v0, v1, rfl, o0, o1⟩, hbq⟩
          obtain ⟨D0, e0, rfl, -⟩ := own_form o0
          obtain ⟨D1, e1, rfl, -⟩ := own_form o1
          have HBq := Lib.hid (bNext HB3.out hbq)
          have k0q := k03.next hbq
          have k1q := k13.next hbq
          have hzq := hbq.size
          have hr0 := Nr.made o0 o1
          have hbA := bAlloc wq (.cells #[.slice D0 s.files.length e0, .slice D1 s.opn.length e1, .int .i64 s.inp, .int .i64 s.out, .int .i64 s.nxt] 25)
          obtain ⟨wc, HWc⟩ : ∃ wc, Hid (wc = wq.alloc (.cells #[.slice D0 s.files.length e0, .slice D1 s.opn.length e1, .int .i64 s.inp, .int .i64 s.out, .int .i64 s.nxt] 25)) := ⟨_, rfl⟩
          obtain ⟨B, hB⟩ : ∃ B, Hid (B = w3.heap.size) := ⟨_, rfl⟩
          obtain ⟨nb, hnb⟩ : ∃ nb, Hid (nb = wq.heap.size) := ⟨_, rfl⟩
          rw [← HWc.out] at hr0 hbA
          have HBc := Lib.hid (bNext HBq.out hbA)
          have k0c := k0q.next hbA
          have k1c := k1q.next hbA
          rw [← hB.out, ← hnb.out] at hr0
          have hBw : w.heap.size + 1 < B := by rw [hB.out]; exact k13.lt
          have hBn : B ≤ nb := by rw [hB.out, hnb.out]; exact hzq
          have HNR := Lib.hid hr0
          clear hr0 hbA hbq o0 o1 k03 k13 k0q k1q
          clear p0 p1 p2 p3 p4 z0 z1 z2 z3 z4 g0 g1 g2 g3 g4 zz hz0
          obtain ⟨p0, p1, p2, p3, p4⟩ := smBox k0c
          have z0 := k1c.cell 0
          have z1 := k1c.cell 1
          have z2 := k1c.cell 2
          have z3 := k1c.cell 3
          have z4 := k1c.cell 4
          simp at z0 z1 z2 z3 z4
          have g0 := k1c.frozen 0
          have g1 := k1c.frozen 1
          have g2 := k1c.frozen 2
          have g3 := k1c.frozen 3
          have g4 := k1c.frozen 4
          have zz := k1c.lt
          have hz0 : w.heap.size < wc.heap.size := by omega
          go_upto_region 9 with fail
          rw [← HWc.out, ← hnb.out]
          clear HWc hnb hzq
          obtain ⟨⟨c0', c1', c2', c3', c4'⟩, cf, cz⟩ := Nr.cells HNR.out
          obtain ⟨g, cap, hD1, -, hBg, hgz, hgn, hg0, hfr, hgc⟩ := Nr.opens HNR.out (by omega)
          injection hD1 with hD1 _ hD1c
          subst hD1 hD1c
          obtain ⟨q0, q1, q2, q3, q4, q5, q6⟩ := hgc i x HX.out
          have f3 := hfr (i * 7 + 3)
          have hwr : IntKind.i64.wrap (x.pos + n) = x.pos + n := by rw [IntKind.wrap_i64]; omega
          have HG0 := Lib.hid hg0
          clear hgc hfr hg0
          go_wp2_with fail
          refine bodyPost_ret (v := .tuple #[.agg #[.slice D0 s.files.length e0, .slice (some ⟨g, 0, none⟩) s.opn.length e1, .int .i64 (({ s with opn := s.opn.set i { x with pos := x.pos + n } } : Sm)).inp, .int .i64 (({ s with opn := s.opn.set i { x with pos := x.pos + n } } : Sm)).out, .int .i64 (({ s with opn := s.opn.set i { x with pos := x.pos + n } } : Sm)).nxt], .int .i64 0]) (by simp only [results, Try.results60]; go_simp) rfl (RetS.good (HR.out) ?_ ?_)
          · refine (OwnS.stay (Nr.out (Nr.setG HNR.out HG0.out (i * 7 + 3) (.int .i64 (x.pos + n)) (s.opn.set i { x with pos := x.pos + n }) (gCs_set HX.out 3 _ (by omega) rfl) (by simp))) fun b' hb' _ => ?_).base (by omega)
            (try rw [heap_drew])
            repeat rw [heap_setCell_other _ _ _ _ (by simp; omega)]
          · repeat (first | (with_reducible exact HBc.out) | (with_reducible refine bDrew1 ?_) | ((with_reducible refine Below.setCell ?_ ?_ _); rotate_left; focus (first | (simp; done) | (simp; omega))) | ((with_reducible refine Below.alloc ?_ ?_ _); rotate_left; focus (first | (simp; done) | (simp; omega))))

set_option maxHeartbeats 4000000 in
theorem Peek_any (v : Value) (s : Sm) (id : Int) (w : World) (hs : SmAt w w.heap.size v s) :
    Calls Try.prog 58 #[v, .int .i64 id] w (RetG (peekV s id) w) := by
  obtain ⟨A0, c0, A1, c1, rfl, hcap, h0, h1⟩ := hs
  have HS : Hid (SmAt w w.heap.size (smV A0 A1 c0 c1 s) s) := ⟨A0, c0, A1, c1, rfl, hcap, h0, h1⟩
  have HA := Lib.hid h0
  have HO := Lib.hid h1
  have hfl := h0.1.2
  have hol := h1.1.2
  clear h0 h1 hcap
  cases ha : getV s id with
  | error er =>
    have HR := Lib.hid (peekV_bad ha)
    have HA2 := Lib.hid ha
    rcases getV_er ha with rfl | rfl | rfl
    · clear ha
      obtain ⟨W, HWd⟩ : ∃ W, Hid (W = ((w.alloc (.cells #[.slice A0 s.files.length c0, .slice A1 s.opn.length c1, .int .i64 s.inp, .int .i64 s.out, .int .i64 s.nxt] 25)).alloc (.cells #[.slice none 0 0, .slice none 0 0, .int .i64 0, .int .i64 0, .int .i64 0] 25))) := ⟨_, rfl⟩
      have hbW : Below w.heap.size w W := by
        rw [HWd.out]
        exact (Below.alloc (bAlloc w _) (by simp) _)
      have hzW : W.heap.size = w.heap.size + 2 := by rw [HWd.out]; simp
      have k0 : Blk W w.heap.size 25 #[.slice A0 s.files.length c0, .slice A1 s.opn.length c1, .int .i64 s.inp, .int .i64 s.out, .int .i64 s.nxt] := by rw [HWd.out]; exact (Blk.alloc (Blk.new _ _ _) (.cells #[.slice none 0 0, .slice none 0 0, .int .i64 0, .int .i64 0, .int .i64 0] 25))
      have k1 : Blk W (w.heap.size + 1) 25 #[.slice none 0 0, .slice none 0 0, .int .i64 0, .int .i64 0, .int .i64 0] := by
        have h := (Blk.new (w.alloc (.cells #[.slice A0 s.files.length c0, .slice A1 s.opn.length c1, .int .i64 s.inp, .int .i64 s.out, .int .i64 s.nxt] 25)) 25 #[.slice none 0 0, .slice none 0 0, .int .i64 0, .int .i64 0, .int .i64 0])
        rw [World.size_alloc] at h
        rw [HWd.out]; exact h
      have HBW := Lib.hid hbW
      clear hbW
      go_enter Try.func58, Try.ntmps58
      go_wp2_with fail
      rw [← HWd.out]
      refine (Get_any _ s id _ (HS.out.next HBW.out)).mono ?_
      rintro e w1 ⟨⟨v', rfl, hov⟩, hb1⟩
      rw [HA2.out]
      rw [HA2.out] at hov
      obtain ⟨y0, y1, rfl, o0, o1⟩ := hov
      obtain ⟨Y0, f0, rfl, -⟩ := own_form o0
      obtain ⟨Y1, f1, rfl, -⟩ := own_form o1
      simp only [in2, errOf, sm2]
      clear o0 o1
      have HB1 := Lib.hid (bNext HBW.out hb1)
      have k01 := k0.next hb1
      have k11 := k1.next hb1
      clear hb1 k0 k1
      obtain ⟨p0, p1, p2, p3, p4⟩ := smBox k01
      have z0 := k11.cell 0
      have z1 := k11.cell 1
      have z2 := k11.cell 2
      have z3 := k11.cell 3
      have z4 := k11.cell 4
      simp at z0 z1 z2 z3 z4
      have g0 := k11.frozen 0
      have g1 := k11.frozen 1
      have g2 := k11.frozen 2
      have g3 := k11.frozen 3
      have g4 := k11.frozen 4
      have zz := k11.lt
      have hz0 : w.heap.size < w1.heap.size := by omega
      go_wp2_with fail
      refine bodyPost_ret (v := .tuple #[zV, .int .i64 0, .int .i64 1]) (by simp only [results, Try.results58]; go_simp) rfl (RetG.bad HR.out ?_)
      repeat (first | (with_reducible exact HB1.out) | (with_reducible refine bDrewN (n := 1) ?_) | ((with_reducible refine Below.setCell ?_ ?_ _); rotate_left; focus (first | (simp; done) | (simp; omega))) | ((with_reducible refine Below.alloc ?_ ?_ _); rotate_left; focus (first | (simp; done) | (simp; omega))))
    · clear ha
      obtain ⟨W, HWd⟩ : ∃ W, Hid (W = ((w.alloc (.cells #[.slice A0 s.files.length c0, .slice A1 s.opn.length c1, .int .i64 s.inp, .int .i64 s.out, .int .i64 s.nxt] 25)).alloc (.cells #[.slice none 0 0, .slice none 0 0, .int .i64 0, .int .i64 0, .int .i64 0] 25))) := ⟨_, rfl⟩
      have hbW : Below w.heap.size w W := by
        rw [HWd.out]
        exact (Below.alloc (bAlloc w _) (by simp) _)
      have hzW : W.heap.size = w.heap.size + 2 := by rw [HWd.out]; simp
      have k0 : Blk W w.heap.size 25 #[.slice A0 s.files.length c0, .slice A1 s.opn.length c1, .int .i64 s.inp, .int .i64 s.out, .int .i64 s.nxt] := by rw [HWd.out]; exact (Blk.alloc (Blk.new _ _ _) (.cells #[.slice none 0 0, .slice none 0 0, .int .i64 0, .int .i64 0, .int .i64 0] 25))
      have k1 : Blk W (w.heap.size + 1) 25 #[.slice none 0 0, .slice none 0 0, .int .i64 0, .int .i64 0, .int .i64 0] := by
        have h := (Blk.new (w.alloc (.cells #[.slice A0 s.files.length c0, .slice A1 s.opn.length c1, .int .i64 s.inp, .int .i64 s.out, .int .i64 s.nxt] 25)) 25 #[.slice none 0 0, .slice none 0 0, .int .i64 0, .int .i64 0, .int .i64 0])
        rw [World.size_alloc] at h
        rw [HWd.out]; exact h
      have HBW := Lib.hid hbW
      clear hbW
      go_enter Try.func58, Try.ntmps58
      go_wp2_with fail
      rw [← HWd.out]
      refine (Get_any _ s id _ (HS.out.next HBW.out)).mono ?_
      rintro e w1 ⟨⟨v', rfl, hov⟩, hb1⟩
      rw [HA2.out]
      rw [HA2.out] at hov
      obtain ⟨y0, y1, rfl, o0, o1⟩ := hov
      obtain ⟨Y0, f0, rfl, -⟩ := own_form o0
      obtain ⟨Y1, f1, rfl, -⟩ := own_form o1
      simp only [in2, errOf, sm2]
      clear o0 o1
      have HB1 := Lib.hid (bNext HBW.out hb1)
      have k01 := k0.next hb1
      have k11 := k1.next hb1
      clear hb1 k0 k1
      obtain ⟨p0, p1, p2, p3, p4⟩ := smBox k01
      have z0 := k11.cell 0
      have z1 := k11.cell 1
      have z2 := k11.cell 2
      have z3 := k11.cell 3
      have z4 := k11.cell 4
      simp at z0 z1 z2 z3 z4
      have g0 := k11.frozen 0
      have g1 := k11.frozen 1
      have g2 := k11.frozen 2
      have g3 := k11.frozen 3
      have g4 := k11.frozen 4
      have zz := k11.lt
      have hz0 : w.heap.size < w1.heap.size := by omega
      go_wp2_with fail
      refine bodyPost_ret (v := .tuple #[zV, .int .i64 0, .int .i64 4]) (by simp only [results, Try.results58]; go_simp) rfl (RetG.bad HR.out ?_)
      repeat (first | (with_reducible exact HB1.out) | (with_reducible refine bDrewN (n := 1) ?_) | ((with_reducible refine Below.setCell ?_ ?_ _); rotate_left; focus (first | (simp; done) | (simp; omega))) | ((with_reducible refine Below.alloc ?_ ?_ _); rotate_left; focus (first | (simp; done) | (simp; omega))))
    · clear ha
      obtain ⟨W, HWd⟩ : ∃ W, Hid (W = ((w.alloc (.cells #[.slice A0 s.files.length c0, .slice A1 s.opn.length c1, .int .i64 s.inp, .int .i64 s.out, .int .i64 s.nxt] 25)).alloc (.cells #[.slice none 0 0, .slice none 0 0, .int .i64 0, .int .i64 0, .int .i64 0] 25))) := ⟨_, rfl⟩
      have hbW : Below w.heap.size w W := by
        rw [HWd.out]
        exact (Below.alloc (bAlloc w _) (by simp) _)
      have hzW : W.heap.size = w.heap.size + 2 := by rw [HWd.out]; simp
      have k0 : Blk W w.heap.size 25 #[.slice A0 s.files.length c0, .slice A1 s.opn.length c1, .int .i64 s.inp, .int .i64 s.out, .int .i64 s.nxt] := by rw [HWd.out]; exact (Blk.alloc (Blk.new _ _ _) (.cells #[.slice none 0 0, .slice none 0 0, .int .i64 0, .int .i64 0, .int .i64 0] 25))
      have k1 : Blk W (w.heap.size + 1) 25 #[.slice none 0 0, .slice none 0 0, .int .i64 0, .int .i64 0, .int .i64 0] := by
        have h := (Blk.new (w.alloc (.cells #[.slice A0 s.files.length c0, .slice A1 s.opn.length c1, .int .i64 s.inp, .int .i64 s.out, .int .i64 s.nxt] 25)) 25 #[.slice none 0 0, .slice none 0 0, .int .i64 0, .int .i64 0, .int .i64 0])
        rw [World.size_alloc] at h
        rw [HWd.out]; exact h
      have HBW := Lib.hid hbW
      clear hbW
      go_enter Try.func58, Try.ntmps58
      go_wp2_with fail
      rw [← HWd.out]
      refine (Get_any _ s id _ (HS.out.next HBW.out)).mono ?_
      rintro e w1 ⟨⟨v', rfl, hov⟩, hb1⟩
      rw [HA2.out]
      rw [HA2.out] at hov
      obtain ⟨y0, y1, rfl, o0, o1⟩ := hov
      obtain ⟨Y0, f0, rfl, -⟩ := own_form o0
      obtain ⟨Y1, f1, rfl, -⟩ := own_form o1
      simp only [in2, errOf, sm2]
      clear o0 o1
      have HB1 := Lib.hid (bNext HBW.out hb1)
      have k01 := k0.next hb1
      have k11 := k1.next hb1
      clear hb1 k0 k1
      obtain ⟨p0, p1, p2, p3, p4⟩ := smBox k01
      have z0 := k11.cell 0
      have z1 := k11.cell 1
      have z2 := k11.cell 2
      have z3 := k11.cell 3
      have z4 := k11.cell 4
      simp at z0 z1 z2 z3 z4
      have g0 := k11.frozen 0
      have g1 := k11.frozen 1
      have g2 := k11.frozen 2
      have g3 := k11.frozen 3
      have g4 := k11.frozen 4
      have zz := k11.lt
      have hz0 : w.heap.size < w1.heap.size := by omega
      go_wp2_with fail
      refine bodyPost_ret (v := .tuple #[zV, .int .i64 0, .int .i64 5]) (by simp only [results, Try.results58]; go_simp) rfl (RetG.bad HR.out ?_)
      repeat (first | (with_reducible exact HB1.out) | (with_reducible refine bDrewN (n := 1) ?_) | ((with_reducible refine Below.setCell ?_ ?_ _); rotate_left; focus (first | (simp; done) | (simp; omega))) | ((with_reducible refine Below.alloc ?_ ?_ _); rotate_left; focus (first | (simp; done) | (simp; omega))))
  | ok r =>
    obtain ⟨s1, c⟩ := r
    have HR := Lib.hid (peekV_good ha)
    have HA2 := Lib.hid ha
    obtain ⟨hvf, hvo, -, -, -, -⟩ := valid_head (getV_valid ha)
    clear ha
    obtain ⟨W, HWd⟩ : ∃ W, Hid (W = ((w.alloc (.cells #[.slice A0 s.files.length c0, .slice A1 s.opn.length c1, .int .i64 s.inp, .int .i64 s.out, .int .i64 s.nxt] 25)).alloc (.cells #[.slice none 0 0, .slice none 0 0, .int .i64 0, .int .i64 0, .int .i64 0] 25))) := ⟨_, rfl⟩
    have hbW : Below w.heap.size w W := by
      rw [HWd.out]
      exact (Below.alloc (bAlloc w _) (by simp) _)
    have hzW : W.heap.size = w.heap.size + 2 := by rw [HWd.out]; simp
    have k0 : Blk W w.heap.size 25 #[.slice A0 s.files.length c0, .slice A1 s.opn.length c1, .int .i64 s.inp, .int .i64 s.out, .int .i64 s.nxt] := by rw [HWd.out]; exact (Blk.alloc (Blk.new _ _ _) (.cells #[.slice none 0 0, .slice none 0 0, .int .i64 0, .int .i64 0, .int .i64 0] 25))
    have k1 : Blk W (w.heap.size + 1) 25 #[.slice none 0 0, .slice none 0 0, .int .i64 0, .int .i64 0, .int .i64 0] := by
      have h := (Blk.new (w.alloc (.cells #[.slice A0 s.files.length c0, .slice A1 s.opn.length c1, .int .i64 s.inp, .int .i64 s.out, .int .i64 s.nxt] 25)) 25 #[.slice none 0 0, .slice none 0 0, .int .i64 0, .int .i64 0, .int .i64 0])
      rw [World.size_alloc] at h
      rw [HWd.out]; exact h
    have HBW := Lib.hid hbW
    clear hbW
    go_enter Try.func58, Try.ntmps58
    go_wp2_with fail
    rw [← HWd.out]
    refine (Get_any _ s id _ (HS.out.next HBW.out)).mono ?_
    rintro e w1 ⟨⟨v', rfl, hov⟩, hb1⟩
    rw [HA2.out]
    rw [HA2.out] at hov
    obtain ⟨y0, y1, rfl, o0, o1⟩ := hov
    obtain ⟨Y0, f0, rfl, -⟩ := own_form o0
    obtain ⟨Y1, f1, rfl, -⟩ := own_form o1
    simp only [in2, errOf, sm2]
    clear o0 o1
    have HB1 := Lib.hid (bNext HBW.out hb1)
    have k01 := k0.next hb1
    have k11 := k1.next hb1
    clear hb1 k0 k1
    obtain ⟨p0, p1, p2, p3, p4⟩ := smBox k01
    have z0 := k11.cell 0
    have z1 := k11.cell 1
    have z2 := k11.cell 2
    have z3 := k11.cell 3
    have z4 := k11.cell 4
    simp at z0 z1 z2 z3 z4
    have g0 := k11.frozen 0
    have g1 := k11.frozen 1
    have g2 := k11.frozen 2
    have g3 := k11.frozen 3
    have g4 := k11.frozen 4
    have zz := k11.lt
    have hz0 : w.heap.size < w1.heap.size := by omega
    go_wp2_with fail
    have HBn := Lib.hid (HB1.out.alloc (by omega) (.cells #[.slice Y0 s1.files.length f0, .slice Y1 s1.opn.length f1, .int .i64 s1.inp, .int .i64 s1.out, .int .i64 s1.nxt] 25))
    refine (clone_own _ s _ (HS.out.next HBn.out)).mono ?_
    rintro e w2 ⟨⟨v0, v1, rfl, o0, o1⟩, hb2⟩
    obtain ⟨D0, e0, rfl, -⟩ := own_form o0
    obtain ⟨D1, e1, rfl, -⟩ := own_form o1
    have HOW := Lib.hid (show OwnS w2 _ (smV D0 D1 e0 e1 s) s from ⟨_, _, rfl, o0, o1⟩)
    have HB2 := Lib.hid (bNext HBn.out hb2)
    have k02 := (k01.alloc (.cells #[.slice Y0 s1.files.length f0, .slice Y1 s1.opn.length f1, .int .i64 s1.inp, .int .i64 s1.out, .int .i64 s1.nxt] 25)).next hb2
    have k12 := (k11.alloc (.cells #[.slice Y0 s1.files.length f0, .slice Y1 s1.opn.length f1, .int .i64 s1.inp, .int .i64 s1.out, .int .i64 s1.nxt] 25)).next hb2
    have hz2 := hb2.size
    simp at hz2
    have hzw1 := k11.lt
    clear hb2 o0 o1 k01 k11
    clear p0 p1 p2 p3 p4 z0 z1 z2 z3 z4 g0 g1 g2 g3 g4 zz hz0
    obtain ⟨p0, p1, p2, p3, p4⟩ := smBox k02
    have z0 := k12.cell 0
    have z1 := k12.cell 1
    have z2 := k12.cell 2
    have z3 := k12.cell 3
    have z4 := k12.cell 4
    simp at z0 z1 z2 z3 z4
    have g0 := k12.frozen 0
    have g1 := k12.frozen 1
    have g2 := k12.frozen 2
    have g3 := k12.frozen 3
    have g4 := k12.frozen 4
    have zz := k12.lt
    have hz0 : w.heap.size < w2.heap.size := by omega
    go_wp2_with fail
    refine bodyPost_ret (v := .tuple #[smV D0 D1 e0 e1 s, .int .i64 c, .int .i64 0]) (by simp only [results, Try.results58]; go_simp) rfl (RetG.good HR.out ?_ ?_)
    · refine (HOW.out.stay fun b' hb' _ => ?_).base (by simp; omega)
      simp at hb'
      repeat rw [heap_setCell_other _ _ _ _ (by simp; omega)]
    · repeat (first | (with_reducible exact HB2.out) | (with_reducible refine bDrewN (n := 1) ?_) | ((with_reducible refine Below.setCell ?_ ?_ _); rotate_left; focus (first | (simp; done) | (simp; omega))) | ((with_reducible refine Below.alloc ?_ ?_ _); rotate_left; focus (first | (simp; done) | (simp; omega))))

set_option maxHeartbeats 4000000 in
theorem RPut_any (v : Value) (s : Sm) (id : Int) (t : ByteArray) (w : World) (hs : SmAt w w.heap.size v s) :
    Calls Try.prog 61 #[v, .int .i64 id, .string t] w (RetS (putV s id t) w) := by
  obtain ⟨A0, c0, A1, c1, rfl, hcap, h0, h1⟩ := hs
  have HS : Hid (SmAt w w.heap.size (smV A0 A1 c0 c1 s) s) := ⟨A0, c0, A1, c1, rfl, hcap, h0, h1⟩
  have HA := Lib.hid h0
  have HO := Lib.hid h1
  have hfl := h0.1.2
  have hol := h1.1.2
  clear h0 h1 hcap
  cases hvl : validB s
  case false =>
    have HR := Lib.hid (put_off (id := id) (t := t) (.inl hvl))
    obtain ⟨W, HWd⟩ : ∃ W, Hid (W = ((w.alloc (.cells #[.slice A0 s.files.length c0, .slice A1 s.opn.length c1, .int .i64 s.inp, .int .i64 s.out, .int .i64 s.nxt] 25)).alloc (.cells #[.slice none 0 0, .slice none 0 0, .int .i64 0, .int .i64 0, .int .i64 0] 25))) := ⟨_, rfl⟩
    have hbW : Below w.heap.size w W := by
      rw [HWd.out]
      exact (Below.alloc (bAlloc w _) (by simp) _)
    have hzW : W.heap.size = w.heap.size + 2 := by rw [HWd.out]; simp
    have k0 : Blk W w.heap.size 25 #[.slice A0 s.files.length c0, .slice A1 s.opn.length c1, .int .i64 s.inp, .int .i64 s.out, .int .i64 s.nxt] := by rw [HWd.out]; exact (Blk.alloc (Blk.new _ _ _) (.cells #[.slice none 0 0, .slice none 0 0, .int .i64 0, .int .i64 0, .int .i64 0] 25))
    have k1 : Blk W (w.heap.size + 1) 25 #[.slice none 0 0, .slice none 0 0, .int .i64 0, .int .i64 0, .int .i64 0] := by
      have h := (Blk.new (w.alloc (.cells #[.slice A0 s.files.length c0, .slice A1 s.opn.length c1, .int .i64 s.inp, .int .i64 s.out, .int .i64 s.nxt] 25)) 25 #[.slice none 0 0, .slice none 0 0, .int .i64 0, .int .i64 0, .int .i64 0])
      rw [World.size_alloc] at h
      rw [HWd.out]; exact h
    have HBW := Lib.hid hbW
    clear hbW
    go_enter Try.func61, Try.ntmps61
    go_wp2_with fail
    rw [← HWd.out]
    refine (rvalid_any _ s _ (HS.out.next HBW.out)).mono ?_
    rintro e w1 ⟨rfl, hb1⟩
    have HB1 := Lib.hid (bNext HBW.out hb1)
    have k01 := k0.next hb1
    have k11 := k1.next hb1
    clear hb1 k0 k1
    obtain ⟨p0, p1, p2, p3, p4⟩ := smBox k01
    have z0 := k11.cell 0
    have z1 := k11.cell 1
    have z2 := k11.cell 2
    have z3 := k11.cell 3
    have z4 := k11.cell 4
    simp at z0 z1 z2 z3 z4
    have g0 := k11.frozen 0
    have g1 := k11.frozen 1
    have g2 := k11.frozen 2
    have g3 := k11.frozen 3
    have g4 := k11.frozen 4
    have zz := k11.lt
    have hz0 : w.heap.size < w1.heap.size := by omega
    rw [hvl]
    go_wp2_with fail
    refine bodyPost_ret (v := .tuple #[zV, .int .i64 1]) (by simp only [results, Try.results61]; go_simp) rfl (RetS.bad HR.out ?_)
    repeat (first | (with_reducible exact HB1.out) | ((with_reducible refine Below.setCell ?_ ?_ _); rotate_left; focus (first | (simp; done) | (simp; omega))) | ((with_reducible refine Below.alloc ?_ ?_ _); rotate_left; focus (first | (simp; done) | (simp; omega))))
  case true =>
    have HVL := Lib.hid hvl
    by_cases htl : (t.size : Int) ≤ 16384
    case neg =>
      have HR := Lib.hid (put_off (s := s) (id := id) (.inr htl))
      clear hvl
      obtain ⟨W, HWd⟩ : ∃ W, Hid (W = ((w.alloc (.cells #[.slice A0 s.files.length c0, .slice A1 s.opn.length c1, .int .i64 s.inp, .int .i64 s.out, .int .i64 s.nxt] 25)).alloc (.cells #[.slice none 0 0, .slice none 0 0, .int .i64 0, .int .i64 0, .int .i64 0] 25))) := ⟨_, rfl⟩
      have hbW : Below w.heap.size w W := by
        rw [HWd.out]
        exact (Below.alloc (bAlloc w _) (by simp) _)
      have hzW : W.heap.size = w.heap.size + 2 := by rw [HWd.out]; simp
      have k0 : Blk W w.heap.size 25 #[.slice A0 s.files.length c0, .slice A1 s.opn.length c1, .int .i64 s.inp, .int .i64 s.out, .int .i64 s.nxt] := by rw [HWd.out]; exact (Blk.alloc (Blk.new _ _ _) (.cells #[.slice none 0 0, .slice none 0 0, .int .i64 0, .int .i64 0, .int .i64 0] 25))
      have k1 : Blk W (w.heap.size + 1) 25 #[.slice none 0 0, .slice none 0 0, .int .i64 0, .int .i64 0, .int .i64 0] := by
        have h := (Blk.new (w.alloc (.cells #[.slice A0 s.files.length c0, .slice A1 s.opn.length c1, .int .i64 s.inp, .int .i64 s.out, .int .i64 s.nxt] 25)) 25 #[.slice none 0 0, .slice none 0 0, .int .i64 0, .int .i64 0, .int .i64 0])
        rw [World.size_alloc] at h
        rw [HWd.out]; exact h
      have HBW := Lib.hid hbW
      clear hbW
      go_enter Try.func61, Try.ntmps61
      go_wp2_with fail
      rw [← HWd.out]
      refine (rvalid_any _ s _ (HS.out.next HBW.out)).mono ?_
      rintro e w1 ⟨rfl, hb1⟩
      have HB1 := Lib.hid (bNext HBW.out hb1)
      have k01 := k0.next hb1
      have k11 := k1.next hb1
      clear hb1 k0 k1
      obtain ⟨p0, p1, p2, p3, p4⟩ := smBox k01
      have z0 := k11.cell 0
      have z1 := k11.cell 1
      have z2 := k11.cell 2
      have z3 := k11.cell 3
      have z4 := k11.cell 4
      simp at z0 z1 z2 z3 z4
      have g0 := k11.frozen 0
      have g1 := k11.frozen 1
      have g2 := k11.frozen 2
      have g3 := k11.frozen 3
      have g4 := k11.frozen 4
      have zz := k11.lt
      have hz0 : w.heap.size < w1.heap.size := by omega
      rw [HVL.out]
      go_wp2_with fail
      refine bodyPost_ret (v := .tuple #[zV, .int .i64 1]) (by simp only [results, Try.results61]; go_simp) rfl (RetS.bad HR.out ?_)
      repeat (first | (with_reducible exact HB1.out) | ((with_reducible refine Below.setCell ?_ ?_ _); rotate_left; focus (first | (simp; done) | (simp; omega))) | ((with_reducible refine Below.alloc ?_ ?_ _); rotate_left; focus (first | (simp; done) | (simp; omega))))
    case pos =>
      cases ha : askV s id true with
      | error er =>
        have HR := Lib.hid (show putV s id t = .error er by rw [put_on htl, ha])
        have HA2 := Lib.hid ha
        rcases askV_er ha with rfl | rfl
        · clear ha hvl
          obtain ⟨W, HWd⟩ : ∃ W, Hid (W = ((w.alloc (.cells #[.slice A0 s.files.length c0, .slice A1 s.opn.length c1, .int .i64 s.inp, .int .i64 s.out, .int .i64 s.nxt] 25)).alloc (.cells #[.slice none 0 0, .slice none 0 0, .int .i64 0, .int .i64 0, .int .i64 0] 25))) := ⟨_, rfl⟩
          have hbW : Below w.heap.size w W := by
            rw [HWd.out]
            exact (Below.alloc (bAlloc w _) (by simp) _)
          have hzW : W.heap.size = w.heap.size + 2 := by rw [HWd.out]; simp
          have k0 : Blk W w.heap.size 25 #[.slice A0 s.files.length c0, .slice A1 s.opn.length c1, .int .i64 s.inp, .int .i64 s.out, .int .i64 s.nxt] := by rw [HWd.out]; exact (Blk.alloc (Blk.new _ _ _) (.cells #[.slice none 0 0, .slice none 0 0, .int .i64 0, .int .i64 0, .int .i64 0] 25))
          have k1 : Blk W (w.heap.size + 1) 25 #[.slice none 0 0, .slice none 0 0, .int .i64 0, .int .i64 0, .int .i64 0] := by
            have h := (Blk.new (w.alloc (.cells #[.slice A0 s.files.length c0, .slice A1 s.opn.length c1, .int .i64 s.inp, .int .i64 s.out, .int .i64 s.nxt] 25)) 25 #[.slice none 0 0, .slice none 0 0, .int .i64 0, .int .i64 0, .int .i64 0])
            rw [World.size_alloc] at h
            rw [HWd.out]; exact h
          have HBW := Lib.hid hbW
          clear hbW
          go_enter Try.func61, Try.ntmps61
          go_wp2_with fail
          rw [← HWd.out]
          refine (rvalid_any _ s _ (HS.out.next HBW.out)).mono ?_
          rintro e w1 ⟨rfl, hb1⟩
          have HB1 := Lib.hid (bNext HBW.out hb1)
          have k01 := k0.next hb1
          have k11 := k1.next hb1
          clear hb1 k0 k1
          obtain ⟨p0, p1, p2, p3, p4⟩ := smBox k01
          have z0 := k11.cell 0
          have z1 := k11.cell 1
          have z2 := k11.cell 2
          have z3 := k11.cell 3
          have z4 := k11.cell 4
          simp at z0 z1 z2 z3 z4
          have g0 := k11.frozen 0
          have g1 := k11.frozen 1
          have g2 := k11.frozen 2
          have g3 := k11.frozen 3
          have g4 := k11.frozen 4
          have zz := k11.lt
          have hz0 : w.heap.size < w1.heap.size := by omega
          rw [HVL.out]
          go_wp2_with fail
          refine (asked_bad HA2.out _ _ (HS.out.next HB1.out)).mono ?_
          rintro e w2 ⟨rfl, hb2⟩
          have HB2 := Lib.hid (bNext HB1.out hb2)
          have k02 := k01.next hb2
          have k12 := k11.next hb2
          clear hb2 k01 k11
          clear p0 p1 p2 p3 p4 z0 z1 z2 z3 z4 g0 g1 g2 g3 g4 zz hz0
          obtain ⟨p0, p1, p2, p3, p4⟩ := smBox k02
          have z0 := k12.cell 0
          have z1 := k12.cell 1
          have z2 := k12.cell 2
          have z3 := k12.cell 3
          have z4 := k12.cell 4
          simp at z0 z1 z2 z3 z4
          have g0 := k12.frozen 0
          have g1 := k12.frozen 1
          have g2 := k12.frozen 2
          have g3 := k12.frozen 3
          have g4 := k12.frozen 4
          have zz := k12.lt
          have hz0 : w.heap.size < w2.heap.size := by omega
          go_wp2_with fail
          refine bodyPost_ret (v := .tuple #[zV, .int .i64 1]) (by simp only [results, Try.results61]; go_simp) rfl (RetS.bad HR.out ?_)
          repeat (first | (with_reducible exact HB2.out) | ((with_reducible refine Below.setCell ?_ ?_ _); rotate_left; focus (first | (simp; done) | (simp; omega))) | ((with_reducible refine Below.alloc ?_ ?_ _); rotate_left; focus (first | (simp; done) | (simp; omega))))
        · clear ha hvl
          obtain ⟨W, HWd⟩ : ∃ W, Hid (W = ((w.alloc (.cells #[.slice A0 s.files.length c0, .slice A1 s.opn.length c1, .int .i64 s.inp, .int .i64 s.out, .int .i64 s.nxt] 25)).alloc (.cells #[.slice none 0 0, .slice none 0 0, .int .i64 0, .int .i64 0, .int .i64 0] 25))) := ⟨_, rfl⟩
          have hbW : Below w.heap.size w W := by
            rw [HWd.out]
            exact (Below.alloc (bAlloc w _) (by simp) _)
          have hzW : W.heap.size = w.heap.size + 2 := by rw [HWd.out]; simp
          have k0 : Blk W w.heap.size 25 #[.slice A0 s.files.length c0, .slice A1 s.opn.length c1, .int .i64 s.inp, .int .i64 s.out, .int .i64 s.nxt] := by rw [HWd.out]; exact (Blk.alloc (Blk.new _ _ _) (.cells #[.slice none 0 0, .slice none 0 0, .int .i64 0, .int .i64 0, .int .i64 0] 25))
          have k1 : Blk W (w.heap.size + 1) 25 #[.slice none 0 0, .slice none 0 0, .int .i64 0, .int .i64 0, .int .i64 0] := by
            have h := (Blk.new (w.alloc (.cells #[.slice A0 s.files.length c0, .slice A1 s.opn.length c1, .int .i64 s.inp, .int .i64 s.out, .int .i64 s.nxt] 25)) 25 #[.slice none 0 0, .slice none 0 0, .int .i64 0, .int .i64 0, .int .i64 0])
            rw [World.size_alloc] at h
            rw [HWd.out]; exact h
          have HBW := Lib.hid hbW
          clear hbW
          go_enter Try.func61, Try.ntmps61
          go_wp2_with fail
          rw [← HWd.out]
          refine (rvalid_any _ s _ (HS.out.next HBW.out)).mono ?_
          rintro e w1 ⟨rfl, hb1⟩
          have HB1 := Lib.hid (bNext HBW.out hb1)
          have k01 := k0.next hb1
          have k11 := k1.next hb1
          clear hb1 k0 k1
          obtain ⟨p0, p1, p2, p3, p4⟩ := smBox k01
          have z0 := k11.cell 0
          have z1 := k11.cell 1
          have z2 := k11.cell 2
          have z3 := k11.cell 3
          have z4 := k11.cell 4
          simp at z0 z1 z2 z3 z4
          have g0 := k11.frozen 0
          have g1 := k11.frozen 1
          have g2 := k11.frozen 2
          have g3 := k11.frozen 3
          have g4 := k11.frozen 4
          have zz := k11.lt
          have hz0 : w.heap.size < w1.heap.size := by omega
          rw [HVL.out]
          go_wp2_with fail
          refine (asked_bad HA2.out _ _ (HS.out.next HB1.out)).mono ?_
          rintro e w2 ⟨rfl, hb2⟩
          have HB2 := Lib.hid (bNext HB1.out hb2)
          have k02 := k01.next hb2
          have k12 := k11.next hb2
          clear hb2 k01 k11
          clear p0 p1 p2 p3 p4 z0 z1 z2 z3 z4 g0 g1 g2 g3 g4 zz hz0
          obtain ⟨p0, p1, p2, p3, p4⟩ := smBox k02
          have z0 := k12.cell 0
          have z1 := k12.cell 1
          have z2 := k12.cell 2
          have z3 := k12.cell 3
          have z4 := k12.cell 4
          simp at z0 z1 z2 z3 z4
          have g0 := k12.frozen 0
          have g1 := k12.frozen 1
          have g2 := k12.frozen 2
          have g3 := k12.frozen 3
          have g4 := k12.frozen 4
          have zz := k12.lt
          have hz0 : w.heap.size < w2.heap.size := by omega
          go_wp2_with fail
          refine bodyPost_ret (v := .tuple #[zV, .int .i64 4]) (by simp only [results, Try.results61]; go_simp) rfl (RetS.bad HR.out ?_)
          repeat (first | (with_reducible exact HB2.out) | ((with_reducible refine Below.setCell ?_ ?_ _); rotate_left; focus (first | (simp; done) | (simp; omega))) | ((with_reducible refine Below.alloc ?_ ?_ _); rotate_left; focus (first | (simp; done) | (simp; omega))))
      | ok i =>
        obtain ⟨hv, hok, hix, x, hx, hid⟩ := askV_ok ha
        have HRP := Lib.hid (show putV s id t = if x.mode == 1 then .error 5 else if 16384 < (fileOf s x).text.size + t.size then .error 13 else .ok (putS s x t) by rw [put_on htl, ha]; simp only [hx])
        have HA2 := Lib.hid ha
        clear hok ha hid hvl hix
        have hil := (List.getElem?_eq_some_iff.1 hx).1
        obtain ⟨k, hk1, hk2, hk3, hk4, hk5⟩ := valid_file hv hx
        have hkl := (List.getElem?_eq_some_iff.1 hk2).1
        obtain ⟨hvf, hvo, hvn1, hvn2, -, -⟩ := valid_head hv
        obtain ⟨b, off, x', rfl, hb, hx', hx4⟩ := HO.out.at hil
        rw [hx] at hx'
        injection hx' with hx'
        subst hx'
        obtain ⟨bf, offf, f', rfl, hbf, hf', hf4⟩ := HA.out.at hkl
        rw [hk2] at hf'
        injection hf' with hf'
        obtain ⟨f, hfd⟩ : ∃ f, fileOf s x = f := ⟨_, rfl⟩
        rw [hfd] at hf' hk2 hk3 hk4 hk5
        subst hf'
        have HFD := Lib.hid hfd
        have HX := Lib.hid hx
        have HV := Lib.hid hv
        have HX4 := Lib.hid hx4
        have HF4 := Lib.hid hf4
        have HK1x := Lib.hid hk1
        have HK2x := Lib.hid hk2
        have HK5x := Lib.hid hk5
        clear hk1 hk2 hk3 hk5 hv hx hfd hx4 hf4
        have hili : (i : Int) < (s.opn.length : Int) := by omega
        have hkli : (k : Int) < (s.files.length : Int) := by omega
        rw [HFD.out] at HRP
        obtain ⟨W, HWd⟩ : ∃ W, Hid (W = ((w.alloc (.cells #[.slice (some ⟨bf, offf, none⟩) s.files.length c0, .slice (some ⟨b, off, none⟩) s.opn.length c1, .int .i64 s.inp, .int .i64 s.out, .int .i64 s.nxt] 25)).alloc (.cells #[.slice none 0 0, .slice none 0 0, .int .i64 0, .int .i64 0, .int .i64 0] 25))) := ⟨_, rfl⟩
        have hbW : Below w.heap.size w W := by
          rw [HWd.out]
          exact (Below.alloc (bAlloc w _) (by simp) _)
        have hzW : W.heap.size = w.heap.size + 2 := by rw [HWd.out]; simp
        have k0 : Blk W w.heap.size 25 #[.slice (some ⟨bf, offf, none⟩) s.files.length c0, .slice (some ⟨b, off, none⟩) s.opn.length c1, .int .i64 s.inp, .int .i64 s.out, .int .i64 s.nxt] := by rw [HWd.out]; exact (Blk.alloc (Blk.new _ _ _) (.cells #[.slice none 0 0, .slice none 0 0, .int .i64 0, .int .i64 0, .int .i64 0] 25))
        have k1 : Blk W (w.heap.size + 1) 25 #[.slice none 0 0, .slice none 0 0, .int .i64 0, .int .i64 0, .int .i64 0] := by
          have h := (Blk.new (w.alloc (.cells #[.slice (some ⟨bf, offf, none⟩) s.files.length c0, .slice (some ⟨b, off, none⟩) s.opn.length c1, .int .i64 s.inp, .int .i64 s.out, .int .i64 s.nxt] 25)) 25 #[.slice none 0 0, .slice none 0 0, .int .i64 0, .int .i64 0, .int .i64 0])
          rw [World.size_alloc] at h
          rw [HWd.out]; exact h
        have HBW := Lib.hid hbW
        clear hbW
        go_enter Try.func61, Try.ntmps61
        go_wp2_with fail
        rw [← HWd.out]
        refine (rvalid_any _ s _ (HS.out.next HBW.out)).mono ?_
        rintro e w1 ⟨rfl, hb1⟩
        have HB1 := Lib.hid (bNext HBW.out hb1)
        have k01 := k0.next hb1
        have k11 := k1.next hb1
        clear hb1 k0 k1
        obtain ⟨p0, p1, p2, p3, p4⟩ := smBox k01
        have z0 := k11.cell 0
        have z1 := k11.cell 1
        have z2 := k11.cell 2
        have z3 := k11.cell 3
        have z4 := k11.cell 4
        simp at z0 z1 z2 z3 z4
        have g0 := k11.frozen 0
        have g1 := k11.frozen 1
        have g2 := k11.frozen 2
        have g3 := k11.frozen 3
        have g4 := k11.frozen 4
        have zz := k11.lt
        have hz0 : w.heap.size < w1.heap.size := by omega
        rw [HVL.out]
        go_wp2_with fail
        refine (asked_good HA2.out _ _ (HS.out.next HB1.out)).mono ?_
        rintro e w2 ⟨rfl, hb2⟩
        have HB2 := Lib.hid (bNext HB1.out hb2)
        have k02 := k01.next hb2
        have k12 := k11.next hb2
        clear hb2 k01 k11
        clear p0 p1 p2 p3 p4 z0 z1 z2 z3 z4 g0 g1 g2 g3 g4 zz hz0
        obtain ⟨p0, p1, p2, p3, p4⟩ := smBox k02
        have z0 := k12.cell 0
        have z1 := k12.cell 1
        have z2 := k12.cell 2
        have z3 := k12.cell 3
        have z4 := k12.cell 4
        simp at z0 z1 z2 z3 z4
        have g0 := k12.frozen 0
        have g1 := k12.frozen 1
        have g2 := k12.frozen 2
        have g3 := k12.frozen 3
        have g4 := k12.frozen 4
        have zz := k12.lt
        have hz0 : w.heap.size < w2.heap.size := by omega
        obtain ⟨q0, q1, q2, q3, q4, q5, q6⟩ := HX4.out.below hb HB2.out
        obtain ⟨g1', g2'⟩ := HF4.out.below hbf HB2.out
        cases hm : x.mode == 1
        case true =>
          have HR := Lib.hid (show putV s id t = .error 5 by rw [HRP.out, hm]; rfl)
          go_wp2_with fail
          refine bodyPost_ret (v := .tuple #[zV, .int .i64 5]) (by simp only [results, Try.results61]; go_simp) rfl (RetS.bad HR.out ?_)
          repeat (first | (with_reducible exact HB2.out) | ((with_reducible refine Below.setCell ?_ ?_ _); rotate_left; focus (first | (simp; done) | (simp; omega))) | ((with_reducible refine Below.alloc ?_ ?_ _); rotate_left; focus (first | (simp; done) | (simp; omega))))
        case false =>
          have HM := Lib.hid hm
          have HRQ := Lib.hid (show putV s id t = if 16384 < f.text.size + t.size then .error 13 else .ok (putS s x t) by rw [HRP.out, hm]; rfl)
          have hcq := fun n => (rfile_any (some ⟨bf, offf, none⟩) s.files.length c0 s.files x.file (w2.drewN n) (HA.out.next (bDrewN HB2.out n))).mono (fun _ _ h => And.intro h.1 h.2.symm)
          rw [HK1x.out] at hcq
          have HBq2 := HB2
          go_wp2_with fail
          go_quiet (exact Calls.quiet_of_same (hcq _))
          clear hcq
          have hwr : IntKind.i64.wrap ((f.text.size : Int) + (t.size : Int)) = (f.text.size : Int) + (t.size : Int) := by rw [IntKind.wrap_i64]; omega
          by_cases hfull : 16384 < (f.text.size : Int) + (t.size : Int)
          · have HR := Lib.hid (show putV s id t = .error 13 by rw [HRQ.out, if_pos (by omega)])
            go_wp2_with fail
            refine bodyPost_ret (v := .tuple #[zV, .int .i64 13]) (by simp only [results, Try.results61]; go_simp) rfl (RetS.bad HR.out ?_)
            repeat (first | (with_reducible refine bDrewN (n := _) ?_) | (with_reducible exact HB2.out) | ((with_reducible refine Below.setCell ?_ ?_ _); rotate_left; focus (first | (simp; done) | (simp; omega))) | ((with_reducible refine Below.alloc ?_ ?_ _); rotate_left; focus (first | (simp; done) | (simp; omega))))
          · have HR := Lib.hid (show putV s id t = .ok { s with files := s.files.set k { f with text := f.text ++ t } } by rw [HRQ.out, if_neg (by omega), putS, HK1x.out, HFD.out]; rfl)
            go_wp2_with fail
            obtain ⟨w3, HW3⟩ : ∃ w3, Hid (w3 = w2.drewN nq) := ⟨_, rfl⟩
            have HB3 := Lib.hid (show Below w.heap.size w w3 by rw [HW3.out]; exact bDrewN HB2.out nq)
            have k03 : Blk w3 w.heap.size 25 #[.slice (some ⟨bf, offf, none⟩) s.files.length c0, .slice (some ⟨b, off, none⟩) s.opn.length c1, .int .i64 s.inp, .int .i64 s.out, .int .i64 s.nxt] := by rw [HW3.out]; exact k02
            have k13 : Blk w3 (w.heap.size + 1) 25 #[.slice none 0 0, .slice none 0 0, .int .i64 0, .int .i64 0, .int .i64 0] := by rw [HW3.out]; exact k12
            rw [← HW3.out]
            clear k02 k12 HW3 q0 q1 q2 q3 q4 q5 q6 g1' g2'
            refine (clone_own _ s _ (HS.out.next HB3.out)).mono ?_
            rintro e wq ⟨⟨v0, v1, rfl, o0, o1⟩, hbq⟩
            obtain ⟨D0, e0, rfl, -⟩ := own_form o0
            obtain ⟨D1, e1, rfl, -⟩ := own_form o1
            have HBq := Lib.hid (bNext HB3.out hbq)
            have k0q := k03.next hbq
            have k1q := k13.next hbq
            have hzq := hbq.size
            have hr0 := Nr.made o0 o1
            have hbA := bAlloc wq (.cells #[.slice D0 s.files.length e0, .slice D1 s.opn.length e1, .int .i64 s.inp, .int .i64 s.out, .int .i64 s.nxt] 25)
            obtain ⟨wc, HWc⟩ : ∃ wc, Hid (wc = wq.alloc (.cells #[.slice D0 s.files.length e0, .slice D1 s.opn.length e1, .int .i64 s.inp, .int .i64 s.out, .int .i64 s.nxt] 25)) := ⟨_, rfl⟩
            obtain ⟨B, hB⟩ : ∃ B, Hid (B = w3.heap.size) := ⟨_, rfl⟩
            obtain ⟨nb, hnb⟩ : ∃ nb, Hid (nb = wq.heap.size) := ⟨_, rfl⟩
            rw [← HWc.out] at hr0 hbA
            have HBc := Lib.hid (bNext HBq.out hbA)
            have k0c := k0q.next hbA
            have k1c := k1q.next hbA
            rw [← hB.out, ← hnb.out] at hr0
            have hBw : w.heap.size + 1 < B := by rw [hB.out]; exact k13.lt
            have hBn : B ≤ nb := by rw [hB.out, hnb.out]; exact hzq
            have HNR := Lib.hid hr0
            clear hr0 hbA hbq o0 o1 k03 k13 k0q k1q
            clear p0 p1 p2 p3 p4 z0 z1 z2 z3 z4 g0 g1 g2 g3 g4 zz hz0
            obtain ⟨p0, p1, p2, p3, p4⟩ := smBox k0c
            have z0 := k1c.cell 0
            have z1 := k1c.cell 1
            have z2 := k1c.cell 2
            have z3 := k1c.cell 3
            have z4 := k1c.cell 4
            simp at z0 z1 z2 z3 z4
            have g0 := k1c.frozen 0
            have g1 := k1c.frozen 1
            have g2 := k1c.frozen 2
            have g3 := k1c.frozen 3
            have g4 := k1c.frozen 4
            have zz := k1c.lt
            have hz0 : w.heap.size < wc.heap.size := by omega
            go_wp2_with fail
            rw [← HWc.out, ← hnb.out]
            clear HWc hnb hzq
            obtain ⟨⟨c0', c1', c2', c3', c4'⟩, cf, cz⟩ := Nr.cells HNR.out
            obtain ⟨g, cap, hD0, hBg, hgz, hgn, hg1, hfr, hfc⟩ := Nr.filesG HNR.out (by omega)
            injection hD0 with hD0 _ hD0c
            subst hD0 hD0c
            obtain ⟨fa0, fa1⟩ := hfc k f HK2x.out
            have f1 := hfr (k * 2 + 1)
            have HG1 := Lib.hid hg1
            have hft := (HF4.out.below hbf HBc.out).2
            have hcat : ¬ 9223372036854775807 < f.text.size + t.size := by omega
            clear hfc hfr hg1 cf
            refine wp_region_N (fun w' => Blk w' nb 25 #[.slice (some ⟨g, 0, none⟩) s.files.length e0, .slice D1 s.opn.length e1, .int .i64 s.inp, .int .i64 s.out, .int .i64 s.nxt] ∧ Blk w' w.heap.size 25 #[.slice (some ⟨bf, offf, none⟩) s.files.length c0, .slice (some ⟨b, off, none⟩) s.opn.length c1, .int .i64 s.inp, .int .i64 s.out, .int .i64 s.nxt] ∧ w'.cell? ⟨bf, offf + k * 2 + 1, none⟩ = some (.string f.text)) (fun j => decide (j < 11)) (by kernel_rfl) ?_
            have hS0 : (fun w' => Blk w' nb 25 #[.slice (some ⟨g, 0, none⟩) s.files.length e0, .slice D1 s.opn.length e1, .int .i64 s.inp, .int .i64 s.out, .int .i64 s.nxt] ∧ Blk w' w.heap.size 25 #[.slice (some ⟨bf, offf, none⟩) s.files.length c0, .slice (some ⟨b, off, none⟩) s.opn.length c1, .int .i64 s.inp, .int .i64 s.out, .int .i64 s.nxt] ∧ w'.cell? ⟨bf, offf + k * 2 + 1, none⟩ = some (.string f.text)) wc.drew := ⟨HNR.out.box, k0c, hft⟩
            refine wpAnyN_take (i := 0) (v := ?v1) rfl (by kernel_rfl) (by kernel_rfl) (by kernel_rfl) (by kernel_rfl) (fun _ _ _ h => h) (Or.inl ⟨by rfl, ?hy1⟩) (by assumption) ?_
            case hy1 => intro w hSw; obtain ⟨y0, y1, y2, y3, y4⟩ := smBox' hSw.1; obtain ⟨x0, x1, x2, x3, x4⟩ := smBox hSw.2.1; have yt := hSw.2.2; go_simp; try with_reducible rfl
            simp only [Act.put, List.getElem_toArray, List.getElem_cons_zero, List.setIfInBounds_toArray, List.set_cons_zero, List.set_cons_succ]
            refine wpAnyN_take (i := 1) (v := ?v2) rfl (by kernel_rfl) (by kernel_rfl) (by kernel_rfl) (by kernel_rfl) (fun _ _ _ h => h) (Or.inl ⟨by rfl, ?hy2⟩) (by assumption) ?_
            case hy2 => intro w hSw; obtain ⟨y0, y1, y2, y3, y4⟩ := smBox' hSw.1; obtain ⟨x0, x1, x2, x3, x4⟩ := smBox hSw.2.1; have yt := hSw.2.2; go_simp; try with_reducible rfl
            simp only [Act.put, List.getElem_toArray, List.getElem_cons_zero, List.getElem_cons_succ, List.setIfInBounds_toArray, List.set_cons_zero, List.set_cons_succ]
            refine wpAnyN_take (i := 2) (v := ?v3) rfl (by kernel_rfl) (by kernel_rfl) (by kernel_rfl) (by kernel_rfl) (fun _ _ _ h => h) (Or.inl ⟨by rfl, ?hy3⟩) (by assumption) ?_
            case hy3 => intro w hSw; obtain ⟨y0, y1, y2, y3, y4⟩ := smBox' hSw.1; obtain ⟨x0, x1, x2, x3, x4⟩ := smBox hSw.2.1; have yt := hSw.2.2; go_simp; try with_reducible rfl
            simp only [Act.put, List.getElem_toArray, List.getElem_cons_zero, List.getElem_cons_succ, List.setIfInBounds_toArray, List.set_cons_zero, List.set_cons_succ]
            refine wpAnyN_take (i := 3) (v := ?v4) rfl (by kernel_rfl) (by kernel_rfl) (by kernel_rfl) (by kernel_rfl) (fun _ _ _ h => h) (Or.inl ⟨by rfl, ?hy4⟩) (by assumption) ?_
            case hy4 => intro w hSw; obtain ⟨y0, y1, y2, y3, y4⟩ := smBox' hSw.1; obtain ⟨x0, x1, x2, x3, x4⟩ := smBox hSw.2.1; have yt := hSw.2.2; go_simp; try with_reducible rfl
            simp only [Act.put, List.getElem_toArray, List.getElem_cons_zero, List.getElem_cons_succ, List.setIfInBounds_toArray, List.set_cons_zero, List.set_cons_succ]
            refine wpAnyN_take (i := 4) (v := ?v5) rfl (by kernel_rfl) (by kernel_rfl) (by kernel_rfl) (by kernel_rfl) (fun _ _ _ h => h) (Or.inl ⟨by rfl, ?hy5⟩) (by assumption) ?_
            case hy5 => intro w hSw; obtain ⟨y0, y1, y2, y3, y4⟩ := smBox' hSw.1; obtain ⟨x0, x1, x2, x3, x4⟩ := smBox hSw.2.1; have yt := hSw.2.2; go_simp; try with_reducible rfl
            simp only [Act.put, List.getElem_toArray, List.getElem_cons_zero, List.getElem_cons_succ, List.setIfInBounds_toArray, List.set_cons_zero, List.set_cons_succ]
            refine wpAnyN_take (i := 5) (v := ?v6) rfl (by kernel_rfl) (by kernel_rfl) (by kernel_rfl) (by kernel_rfl) (fun _ _ _ h => h) (Or.inl ⟨by rfl, ?hy6⟩) (by assumption) ?_
            case hy6 => intro w hSw; obtain ⟨y0, y1, y2, y3, y4⟩ := smBox' hSw.1; obtain ⟨x0, x1, x2, x3, x4⟩ := smBox hSw.2.1; have yt := hSw.2.2; go_simp; try with_reducible rfl
            simp only [Act.put, List.getElem_toArray, List.getElem_cons_zero, List.getElem_cons_succ, List.setIfInBounds_toArray, List.set_cons_zero, List.set_cons_succ]
            refine wpAnyN_take (i := 6) (v := ?v7) rfl (by kernel_rfl) (by kernel_rfl) (by kernel_rfl) (by kernel_rfl) (fun _ _ _ h => h) (Or.inl ⟨by rfl, ?hy7⟩) (by assumption) ?_
            case hy7 => intro w hSw; obtain ⟨y0, y1, y2, y3, y4⟩ := smBox' hSw.1; obtain ⟨x0, x1, x2, x3, x4⟩ := smBox hSw.2.1; have yt := hSw.2.2; go_simp; try with_reducible rfl
            simp only [Act.put, List.getElem_toArray, List.getElem_cons_zero, List.getElem_cons_succ, List.setIfInBounds_toArray, List.set_cons_zero, List.set_cons_succ]
            refine wpAnyN_take (i := 7) (v := ?v8) rfl (by kernel_rfl) (by kernel_rfl) (by kernel_rfl) (by kernel_rfl) (fun _ _ _ h => h) (Or.inl ⟨by rfl, ?hy8⟩) (by assumption) ?_
            case hy8 => intro w hSw; obtain ⟨y0, y1, y2, y3, y4⟩ := smBox' hSw.1; obtain ⟨x0, x1, x2, x3, x4⟩ := smBox hSw.2.1; have yt := hSw.2.2; go_simp; try with_reducible rfl
            simp only [Act.put, List.getElem_toArray, List.getElem_cons_zero, List.getElem_cons_succ, List.setIfInBounds_toArray, List.set_cons_zero, List.set_cons_succ]
            refine wpAnyN_take (i := 8) (v := ?v9) rfl (by kernel_rfl) (by kernel_rfl) (by kernel_rfl) (by kernel_rfl) (fun _ _ _ h => h) (Or.inl ⟨by rfl, ?hy9⟩) (by assumption) ?_
            case hy9 => intro w hSw; obtain ⟨y0, y1, y2, y3, y4⟩ := smBox' hSw.1; obtain ⟨x0, x1, x2, x3, x4⟩ := smBox hSw.2.1; have yt := hSw.2.2; go_simp; try with_reducible rfl
            simp only [Act.put, List.getElem_toArray, List.getElem_cons_zero, List.getElem_cons_succ, List.setIfInBounds_toArray, List.set_cons_zero, List.set_cons_succ]
            refine wpAnyN_take (i := 9) (v := ?v10) rfl (by kernel_rfl) (by kernel_rfl) (by kernel_rfl) (by kernel_rfl) (fun _ _ _ h => h) (Or.inl ⟨by rfl, ?hy10⟩) (by assumption) ?_
            case hy10 => intro w hSw; obtain ⟨y0, y1, y2, y3, y4⟩ := smBox' hSw.1; obtain ⟨x0, x1, x2, x3, x4⟩ := smBox hSw.2.1; have yt := hSw.2.2; go_simp; try with_reducible rfl
            simp only [Act.put, List.getElem_toArray, List.getElem_cons_zero, List.getElem_cons_succ, List.setIfInBounds_toArray, List.set_cons_zero, List.set_cons_succ]
            refine wpAnyN_take (i := 10) (v := ?v11) rfl (by kernel_rfl) (by kernel_rfl) (by kernel_rfl) (by kernel_rfl) (fun _ _ _ h => h) (Or.inl ⟨by rfl, ?hy11⟩) (by assumption) ?_
            case hy11 => intro w hSw; obtain ⟨y0, y1, y2, y3, y4⟩ := smBox' hSw.1; obtain ⟨x0, x1, x2, x3, x4⟩ := smBox hSw.2.1; have yt := hSw.2.2; go_simp; try with_reducible rfl
            simp only [Act.put, List.getElem_toArray, List.getElem_cons_zero, List.getElem_cons_succ, List.setIfInBounds_toArray, List.set_cons_zero, List.set_cons_succ]
            refine wpAnyN_one (i := 11) (by kernel_rfl) rfl (fun K hK => ?_)
            simp only [List.getElem_toArray, List.getElem_cons_zero, List.getElem_cons_succ]
            go_simp
            refine hK _ _ (fun h => absurd h (by decide)) ?_
            refine wpAnyN_one (i := 12) (by kernel_rfl) rfl (fun K hK => ?_)
            simp only [List.getElem_toArray, List.getElem_cons_zero, List.getElem_cons_succ]
            go_simp
            refine hK _ _ (fun h => absurd h (by decide)) ?_
            refine wpAnyN_one (i := 13) (by kernel_rfl) rfl (fun K hK => ?_)
            simp only [List.getElem_toArray, List.getElem_cons_zero, List.getElem_cons_succ]
            go_simp
            refine hK _ _ (fun h => absurd h (by decide)) ?_
            refine wpAnyN_done (by kernel_rfl) ?_ _
            go_wp2_with fail
            refine bodyPost_ret (v := .tuple #[.agg #[.slice (some ⟨g, 0, none⟩) s.files.length e0, .slice D1 s.opn.length e1, .int .i64 (({ s with files := s.files.set k { f with text := f.text ++ t } } : Sm)).inp, .int .i64 (({ s with files := s.files.set k { f with text := f.text ++ t } } : Sm)).out, .int .i64 (({ s with files := s.files.set k { f with text := f.text ++ t } } : Sm)).nxt], .int .i64 0]) (by simp only [results, Try.results61]; go_simp) rfl (RetS.good (HR.out) ?_ ?_)
            · refine (OwnS.stay (Nr.out (Nr.setF HNR.out HG1.out (k * 2 + 1) (.string (f.text ++ t)) (s.files.set k { f with text := f.text ++ t }) (fCs_set HK2x.out _) (by simp))) fun b' hb' _ => ?_).base (by omega)
              (try rw [heap_drew])
              repeat rw [heap_setCell_other _ _ _ _ (by simp; omega)]
            · repeat (first | (with_reducible exact HBc.out) | (with_reducible refine bDrew1 ?_) | ((with_reducible refine Below.setCell ?_ ?_ _); rotate_left; focus (first | (simp; done) | (simp; omega))) | ((with_reducible refine Below.alloc ?_ ?_ _); rotate_left; focus (first | (simp; done) | (simp; omega))))

end Go.Proofs.Ytklpghpfdeojeaa
