/-
  Walk: Open of the program.
-/
import Derived.Test.YtklpghpfdeojeaaUj
import Derived.Test.YtklpghpfdeojeaaUg
namespace Go.Proofs.Ytklpghpfdeojeaa
open Go.RowKit

@[reducible] def openX (s : Sm) (name : ByteArray) (mode : Int) (al : ByteArray) (eof : Int) : G := ⟨s.nxt, name, mode, 0, al, eof, false⟩
def openS (s : Sm) (name : ByteArray) (mode : Int) (al : ByteArray) (eof : Int) : Sm := { s with files := openF s.files name mode, opn := s.opn ++ [openX s name mode al eof], nxt := s.nxt + 1 }
def openArg (s : Sm) (name : ByteArray) (mode : Int) (al : ByteArray) (eof : Int) : Bool := validB s && namedB name && kindB mode && decide ((al.size : Int) ≤ 100) && kindB eof
def openFull (s : Sm) (name : ByteArray) : Bool := decide (16 ≤ (s.opn.length : Int)) || s.nxt == 1073741824 || (decide (idxI s.files (fileP name) < 0) && decide (16 ≤ (s.files.length : Int)))
def openV (s : Sm) (name : ByteArray) (mode : Int) (al : ByteArray) (eof : Int) : Except Int (Sm × Int) :=
  if openArg s name mode al eof then
    if decide (idxI s.files (fileP name) < 0) && mode == 1 then .error 4
    else if 0 ≤ idxI s.opn (apP (openX s name mode al eof)) then .error 5
    else if openFull s name then .error 13
    else .ok (openS s name mode al eof, s.nxt)
  else .error 1
theorem openV_arg {s : Sm} {name al : ByteArray} {mode eof : Int} (h : openArg s name mode al eof = false) : openV s name mode al eof = .error 1 := by unfold openV; rw [h]; rfl
theorem openV_go {s : Sm} {name al : ByteArray} {mode eof : Int} (h : openArg s name mode al eof = true) : openV s name mode al eof = if decide (idxI s.files (fileP name) < 0) && mode == 1 then .error 4
    else if 0 ≤ idxI s.opn (apP (openX s name mode al eof)) then .error 5
    else if openFull s name then .error 13
    else .ok (openS s name mode al eof, s.nxt) := by unfold openV; rw [h]; rfl
theorem valid_two {s : Sm} (h : validB s = true) : 2 ≤ s.opn.length := by
  have h1 := (valid_head h).2.2.2.2.2
  match hl : s.opn with
  | [] => rw [hl] at h1; cases h1
  | [_] => rw [hl] at h1; cases h1
  | _ :: _ :: _ => simp
theorem insF_len' (l : List F) (f : F) : (insF l f).length = l.length + 1 := by
  have := posF_le l f
  unfold insF
  simp
  omega
theorem openF_len (l : List F) (name : ByteArray) (mode : Int) : (openF l name mode).length ≤ l.length + 1 := by
  unfold openF
  split
  · rw [insF_len']; omega
  · split
    · split
      · rw [List.length_set]; omega
      · omega
    · omega

set_option maxHeartbeats 8000000 in
theorem open_any (v : Value) (s : Sm) (name : ByteArray) (mode : Int) (al : ByteArray) (eof : Int) (w : World) (hs : SmAt w w.heap.size v s) :
    Calls Try.prog 15 #[v, .string name, .int .i64 mode, .string al, .int .i64 eof] w (RetG (openV s name mode al eof) w) := by
  obtain ⟨A0, c0, A1, c1, rfl, hcap, h0, h1⟩ := hs
  have HS : Hid (SmAt w w.heap.size (smV A0 A1 c0 c1 s) s) := ⟨A0, c0, A1, c1, rfl, hcap, h0, h1⟩
  have HA := Lib.hid h0
  have HO := Lib.hid h1
  have hfl := h0.1.2
  have hol := h1.1.2
  clear h0 h1 hcap
  obtain ⟨W, HWd⟩ : ∃ W, Hid (W = ((((w.alloc (.cells #[.slice A0 s.files.length c0, .slice A1 s.opn.length c1, .int .i64 s.inp, .int .i64 s.out, .int .i64 s.nxt] 25)).alloc (.cells #[.string name] 9)).alloc (.cells #[.int .i64 mode] 3)).alloc (.cells #[.slice none 0 0, .slice none 0 0, .int .i64 0, .int .i64 0, .int .i64 0] 25))) := ⟨_, rfl⟩
  have hbW : Below w.heap.size w W := by
    rw [HWd.out]
    exact (Below.alloc (Below.alloc (Below.alloc (bAlloc w _) (by simp) _) (by simp; omega) _) (by simp; omega) _)
  have hzW : W.heap.size = w.heap.size + 4 := by rw [HWd.out]; simp
  have k0 : Blk W w.heap.size 25 #[.slice A0 s.files.length c0, .slice A1 s.opn.length c1, .int .i64 s.inp, .int .i64 s.out, .int .i64 s.nxt] := by rw [HWd.out]; exact (Blk.alloc (Blk.alloc (Blk.alloc (Blk.new _ _ _) (.cells #[.string name] 9)) (.cells #[.int .i64 mode] 3)) (.cells #[.slice none 0 0, .slice none 0 0, .int .i64 0, .int .i64 0, .int .i64 0] 25))
  have k1 : Blk W (w.heap.size + 1) 9 #[.string name] := by
    have h := (Blk.alloc (Blk.alloc (Blk.new (w.alloc (.cells #[.slice A0 s.files.length c0, .slice A1 s.opn.length c1, .int .i64 s.inp, .int .i64 s.out, .int .i64 s.nxt] 25)) 9 #[.string name]) (.cells #[.int .i64 mode] 3)) (.cells #[.slice none 0 0, .slice none 0 0, .int .i64 0, .int .i64 0, .int .i64 0] 25))
    rw [World.size_alloc] at h
    rw [HWd.out]; exact h
  have k2 : Blk W (w.heap.size + 1 + 1) 3 #[.int .i64 mode] := by
    have h := (Blk.alloc (Blk.new ((w.alloc (.cells #[.slice A0 s.files.length c0, .slice A1 s.opn.length c1, .int .i64 s.inp, .int .i64 s.out, .int .i64 s.nxt] 25)).alloc (.cells #[.string name] 9)) 3 #[.int .i64 mode]) (.cells #[.slice none 0 0, .slice none 0 0, .int .i64 0, .int .i64 0, .int .i64 0] 25))
    rw [World.size_alloc, World.size_alloc] at h
    rw [HWd.out]; exact h
  have k3 : Blk W (w.heap.size + 1 + 1 + 1) 25 #[.slice none 0 0, .slice none 0 0, .int .i64 0, .int .i64 0, .int .i64 0] := by
    have h := (Blk.new (((w.alloc (.cells #[.slice A0 s.files.length c0, .slice A1 s.opn.length c1, .int .i64 s.inp, .int .i64 s.out, .int .i64 s.nxt] 25)).alloc (.cells #[.string name] 9)).alloc (.cells #[.int .i64 mode] 3)) 25 #[.slice none 0 0, .slice none 0 0, .int .i64 0, .int .i64 0, .int .i64 0])
    rw [World.size_alloc, World.size_alloc, World.size_alloc] at h
    rw [HWd.out]; exact h
  have HBW := Lib.hid hbW
  clear hbW
  go_enter Try.func15, Try.ntmps15
  go_wp2_with fail
  rw [← HWd.out]
  refine (valid_any _ s _ (HS.out.next HBW.out)).mono ?_
  rintro e w1 ⟨rfl, hb1⟩
  have HB1 := Lib.hid (bNext HBW.out hb1)
  have k01 := k0.next hb1
  have k11 := k1.next hb1
  have k21 := k2.next hb1
  have k31 := k3.next hb1
  have hz3 := k31.lt
  have hz0 : w.heap.size < w1.heap.size := by omega
  have hz1 : w.heap.size + 1 < w1.heap.size := by omega
  have hz2 : w.heap.size + 1 + 1 < w1.heap.size := by omega
  obtain ⟨p0, p1, p2, p3, p4⟩ := smBox k01
  have z0 := k31.cell 0
  have z1 := k31.cell 1
  have z2 := k31.cell 2
  have z3 := k31.cell 3
  have z4 := k31.cell 4
  simp at z0 z1 z2 z3 z4
  have g0 := k31.frozen 0
  have g1 := k31.frozen 1
  have g2 := k31.frozen 2
  have g3 := k31.frozen 3
  have g4 := k31.frozen 4
  have cn := k11.cell 0
  have cm := k21.cell 0
  simp at cn cm
  clear k0 k1 k2 k3 hb1
  cases hv : validB s
  · have HR := Lib.hid (openV_arg (show openArg s name mode al eof = false by simp [openArg, hv]))
    go_wp2_with fail
    refine bodyPost_ret (v := .tuple #[zV, .int .i64 0, .int .i64 1]) (by simp only [results, Try.results15]; go_simp) rfl (RetG.bad HR.out ?_)
    repeat (first | (with_reducible exact HB1.out) | (with_reducible refine bDrewN (n := 1) ?_) | ((with_reducible refine Below.setCell ?_ ?_ _); rotate_left; focus (first | (simp; done) | (simp; omega))) | ((with_reducible refine Below.alloc ?_ ?_ _); rotate_left; focus (first | (simp; done) | (simp; omega))))
  · have HV := Lib.hid hv
    go_wp2_with fail
    refine (named_any name _).mono ?_
    rintro e w2 ⟨rfl, rfl⟩
    cases hnm : namedB name
    · have HR := Lib.hid (openV_arg (show openArg s name mode al eof = false by simp [openArg, hnm]))
      go_wp2_with fail
      refine bodyPost_ret (v := .tuple #[zV, .int .i64 0, .int .i64 1]) (by simp only [results, Try.results15]; go_simp) rfl (RetG.bad HR.out ?_)
      repeat (first | (with_reducible exact HB1.out) | (with_reducible refine bDrewN (n := 1) ?_) | ((with_reducible refine Below.setCell ?_ ?_ _); rotate_left; focus (first | (simp; done) | (simp; omega))) | ((with_reducible refine Below.alloc ?_ ?_ _); rotate_left; focus (first | (simp; done) | (simp; omega))))
    · have HNM := Lib.hid hnm
      go_wp2_with fail
      refine (kind_any mode _).mono ?_
      rintro e w2 ⟨rfl, rfl⟩
      cases hkm : kindB mode
      · have HR := Lib.hid (openV_arg (show openArg s name mode al eof = false by simp [openArg, hkm]))
        go_wp2_with fail
        refine bodyPost_ret (v := .tuple #[zV, .int .i64 0, .int .i64 1]) (by simp only [results, Try.results15]; go_simp) rfl (RetG.bad HR.out ?_)
        repeat (first | (with_reducible exact HB1.out) | (with_reducible refine bDrewN (n := 1) ?_) | ((with_reducible refine Below.setCell ?_ ?_ _); rotate_left; focus (first | (simp; done) | (simp; omega))) | ((with_reducible refine Below.alloc ?_ ?_ _); rotate_left; focus (first | (simp; done) | (simp; omega))))
      · have HKM := Lib.hid hkm
        by_cases hal : (al.size : Int) ≤ 100
        case neg =>
          have HR := Lib.hid (openV_arg (show openArg s name mode al eof = false by simp [openArg, hal]))
          go_wp2_with fail
          refine bodyPost_ret (v := .tuple #[zV, .int .i64 0, .int .i64 1]) (by simp only [results, Try.results15]; go_simp) rfl (RetG.bad HR.out ?_)
          repeat (first | (with_reducible exact HB1.out) | (with_reducible refine bDrewN (n := 1) ?_) | ((with_reducible refine Below.setCell ?_ ?_ _); rotate_left; focus (first | (simp; done) | (simp; omega))) | ((with_reducible refine Below.alloc ?_ ?_ _); rotate_left; focus (first | (simp; done) | (simp; omega))))
        case pos =>
          have HAL := Lib.hid hal
          go_wp2_with fail
          refine (kind_any eof _).mono ?_
          rintro e w2 ⟨rfl, rfl⟩
          cases hke : kindB eof
          · have HR := Lib.hid (openV_arg (show openArg s name mode al eof = false by simp [openArg, hke]))
            go_wp2_with fail
            refine bodyPost_ret (v := .tuple #[zV, .int .i64 0, .int .i64 1]) (by simp only [results, Try.results15]; go_simp) rfl (RetG.bad HR.out ?_)
            repeat (first | (with_reducible exact HB1.out) | (with_reducible refine bDrewN (n := 1) ?_) | ((with_reducible refine Below.setCell ?_ ?_ _); rotate_left; focus (first | (simp; done) | (simp; omega))) | ((with_reducible refine Below.alloc ?_ ?_ _); rotate_left; focus (first | (simp; done) | (simp; omega))))
          · have HARG := Lib.hid (show openArg s name mode al eof = true by simp [openArg, HV.out, HNM.out, HKM.out, HAL.out, hke])
            have HRG := Lib.hid (openV_go HARG.out)
            clear hal
            have HKE := Lib.hid hke
            obtain ⟨hvf, hvo, hvn1, hvn2, -, -⟩ := valid_head HV.out
            have hv2 := valid_two HV.out
            go_wp2_with fail
            refine (file_any _ s name _ (HS.out.next HB1.out)).mono ?_
            rintro e w2 ⟨rfl, hb2⟩
            have HB2 := Lib.hid (bNext HB1.out hb2)
            have k02 := k01.next hb2
            have k12 := k11.next hb2
            have k22 := k21.next hb2
            have k32 := k31.next hb2
            clear p0 p1 p2 p3 p4 z0 z1 z2 z3 z4 g0 g1 g2 g3 g4 cn cm hz0 hz1 hz2 hz3 k01 k11 k21 k31 hv hnm hkm hke hb2
            have hz3 := k32.lt
            have hz0 : w.heap.size < w2.heap.size := by omega
            have hz1 : w.heap.size + 1 < w2.heap.size := by omega
            have hz2 : w.heap.size + 1 + 1 < w2.heap.size := by omega
            obtain ⟨p0, p1, p2, p3, p4⟩ := smBox k02
            have z0 := k32.cell 0
            have z1 := k32.cell 1
            have z2 := k32.cell 2
            have z3 := k32.cell 3
            have z4 := k32.cell 4
            simp at z0 z1 z2 z3 z4
            have g0 := k32.frozen 0
            have g1 := k32.frozen 1
            have g2 := k32.frozen 2
            have g3 := k32.frozen 3
            have g4 := k32.frozen 4
            have cn := k12.cell 0
            have cm := k22.cell 0
            simp at cn cm
            obtain ⟨j, hj⟩ : ∃ j, idxI s.files (fileP name) = j := ⟨_, rfl⟩
            have HJ := Lib.hid hj
            rw [hj] at HRG ⊢
            clear hj
            by_cases hj0 : j < 0
            · cases hm1 : mode == 1
              · have HRF := Lib.hid (show openV s name mode al eof = if 0 ≤ idxI s.opn (apP (openX s name mode al eof)) then .error 5 else if openFull s name then .error 13 else .ok (openS s name mode al eof, s.nxt) by rw [HRG.out, if_neg (by simp [hm1])])
                go_wp2_with fail
                obtain ⟨w3, HW3⟩ : ∃ w3, Hid (w3 = (w2.alloc (.cells #[.int .i64 j] 3)).alloc (.cells #[.int .i64 s.nxt, .string name, .int .i64 mode, .int .i64 0, .string al, .int .i64 eof, .bool false] 52)) := ⟨_, rfl⟩
                have HB3 := Lib.hid (show Below w.heap.size w w3 by rw [HW3.out]; exact (HB2.out.alloc (by omega) _).alloc (by simp; omega) _)
                have k03 : Blk w3 w.heap.size 25 #[.slice A0 s.files.length c0, .slice A1 s.opn.length c1, .int .i64 s.inp, .int .i64 s.out, .int .i64 s.nxt] := by rw [HW3.out]; exact (k02.alloc _).alloc _
                have k13 : Blk w3 (w.heap.size + 1) 9 #[.string name] := by rw [HW3.out]; exact (k12.alloc _).alloc _
                have k23 : Blk w3 (w.heap.size + 1 + 1) 3 #[.int .i64 mode] := by rw [HW3.out]; exact (k22.alloc _).alloc _
                have k33 : Blk w3 (w.heap.size + 1 + 1 + 1) 25 #[.slice none 0 0, .slice none 0 0, .int .i64 0, .int .i64 0, .int .i64 0] := by rw [HW3.out]; exact (k32.alloc _).alloc _
                have kp3 : Blk w3 w2.heap.size 3 #[.int .i64 j] := by rw [HW3.out]; exact (Blk.new w2 3 _).alloc _
                have kx3 : Blk w3 (w2.heap.size + 1) 52 #[.int .i64 s.nxt, .string name, .int .i64 mode, .int .i64 0, .string al, .int .i64 eof, .bool false] := by
                  have h := Blk.new (w2.alloc (.cells #[.int .i64 j] 3)) 52 #[.int .i64 s.nxt, .string name, .int .i64 mode, .int .i64 0, .string al, .int .i64 eof, .bool false]
                  rw [World.size_alloc] at h
                  rw [HW3.out]; exact h
                have hxx := gBox (x := openX s name mode al eof) kx3
                rw [← HW3.out]
                refine (index43_any A1 s.opn.length c1 s.opn (w2.heap.size + 1) (openX s name mode al eof) _ (HO.out.next HB3.out) kx3.lt hxx.1 hxx.2.1 hxx.2.2.1 hxx.2.2.2.1 hxx.2.2.2.2.1 hxx.2.2.2.2.2.1 hxx.2.2.2.2.2.2).mono ?_
                rintro e w4 ⟨rfl, hb4⟩
                have HB4 := Lib.hid (bNext HB3.out hb4)
                have k04 := k03.next hb4
                have k14 := k13.next hb4
                have k24 := k23.next hb4
                have k34 := k33.next hb4
                have kp4 := kp3.next hb4
                have kx4 := kx3.next hb4
                have hw2s := k32.lt
                clear p0 p1 p2 p3 p4 z0 z1 z2 z3 z4 g0 g1 g2 g3 g4 cn cm hz0 hz1 hz2 hz3
                have hz3 := k34.lt
                have hz0 : w.heap.size < w4.heap.size := by omega
                have hz1 : w.heap.size + 1 < w4.heap.size := by omega
                have hz2 : w.heap.size + 1 + 1 < w4.heap.size := by omega
                obtain ⟨p0, p1, p2, p3, p4⟩ := smBox k04
                have z0 := k34.cell 0
                have z1 := k34.cell 1
                have z2 := k34.cell 2
                have z3 := k34.cell 3
                have z4 := k34.cell 4
                simp at z0 z1 z2 z3 z4
                have g0 := k34.frozen 0
                have g1 := k34.frozen 1
                have g2 := k34.frozen 2
                have g3 := k34.frozen 3
                have g4 := k34.frozen 4
                have cn := k14.cell 0
                have cm := k24.cell 0
                simp at cn cm
                have cj := kp4.cell 0
                have cx := kx4.cell 0
                simp at cj cx
                have zj := kp4.lt
                have zx := kx4.lt
                clear hxx hb4 k03 k13 k23 k33 kp3 kx3 k02 k12 k22 k32 HW3
                obtain ⟨q, hq⟩ : ∃ q, idxI s.opn (apP (openX s name mode al eof)) = q := ⟨_, rfl⟩
                rw [hq] at HRF ⊢
                clear hq
                by_cases hq0 : 0 ≤ q
                · have HR := Lib.hid (show openV s name mode al eof = .error 5 by rw [HRF.out, if_pos hq0])
                  go_wp2_with fail
                  refine bodyPost_ret (v := .tuple #[zV, .int .i64 0, .int .i64 5]) (by simp only [results, Try.results15]; go_simp) rfl (RetG.bad HR.out ?_)
                  repeat (first | (with_reducible exact HB4.out) | (with_reducible refine bDrewN (n := 1) ?_) | ((with_reducible refine Below.setCell ?_ ?_ _); rotate_left; focus (first | (simp; done) | (simp; omega))) | ((with_reducible refine Below.alloc ?_ ?_ _); rotate_left; focus (first | (simp; done) | (simp; omega))))
                · have HRE := Lib.hid (show openV s name mode al eof = if openFull s name then .error 13 else .ok (openS s name mode al eof, s.nxt) by rw [HRF.out, if_neg hq0])
                  by_cases h16 : 16 ≤ (s.opn.length : Int)
                  · have HR := Lib.hid (show openV s name mode al eof = .error 13 by rw [HRE.out]; simp [openFull, h16])
                    go_wp2_with fail
                    refine bodyPost_ret (v := .tuple #[zV, .int .i64 0, .int .i64 13]) (by simp only [results, Try.results15]; go_simp) rfl (RetG.bad HR.out ?_)
                    repeat (first | (with_reducible exact HB4.out) | (with_reducible refine bDrewN (n := 1) ?_) | ((with_reducible refine Below.setCell ?_ ?_ _); rotate_left; focus (first | (simp; done) | (simp; omega))) | ((with_reducible refine Below.alloc ?_ ?_ _); rotate_left; focus (first | (simp; done) | (simp; omega))))
                  · cases hnx : s.nxt == 1073741824
                    case true =>
                      have HR := Lib.hid (show openV s name mode al eof = .error 13 by rw [HRE.out]; simp [openFull, hnx])
                      have HNX := Lib.hid hnx
                      go_wp2_with fail
                      refine bodyPost_ret (v := .tuple #[zV, .int .i64 0, .int .i64 13]) (by simp only [results, Try.results15]; go_simp) rfl (RetG.bad HR.out ?_)
                      repeat (first | (with_reducible exact HB4.out) | (with_reducible refine bDrewN (n := 1) ?_) | ((with_reducible refine Below.setCell ?_ ?_ _); rotate_left; focus (first | (simp; done) | (simp; omega))) | ((with_reducible refine Below.alloc ?_ ?_ _); rotate_left; focus (first | (simp; done) | (simp; omega))))
                    case false =>
                      by_cases hf16 : 16 ≤ (s.files.length : Int)
                      · have HR := Lib.hid (show openV s name mode al eof = .error 13 by rw [HRE.out]; simp [openFull, HJ.out, hj0, hf16])
                        go_wp2_with fail
                        refine bodyPost_ret (v := .tuple #[zV, .int .i64 0, .int .i64 13]) (by simp only [results, Try.results15]; go_simp) rfl (RetG.bad HR.out ?_)
                        repeat (first | (with_reducible exact HB4.out) | (with_reducible refine bDrewN (n := 1) ?_) | ((with_reducible refine Below.setCell ?_ ?_ _); rotate_left; focus (first | (simp; done) | (simp; omega))) | ((with_reducible refine Below.alloc ?_ ?_ _); rotate_left; focus (first | (simp; done) | (simp; omega))))
                      · have HR := Lib.hid (show openV s name mode al eof = .ok (openS s name mode al eof, s.nxt) by rw [HRE.out, show openFull s name = false by simp [openFull, h16, hnx, hf16]]; rfl)
                        obtain ⟨u, hu⟩ : ∃ u, Hid (openS s name mode al eof = u) := ⟨_, rfl⟩
                        have HU := Lib.hid (show u.files.length ≤ 4398046511104 ∧ u.opn.length ≤ 1954687338268 by
                          rw [← hu.out]
                          refine ⟨?_, ?_⟩
                          · show (openF s.files name mode).length ≤ _
                            have := openF_len s.files name mode
                            omega
                          · show (s.opn ++ [_]).length ≤ _
                            rw [List.length_append]
                            simp only [List.length_cons, List.length_nil]
                            omega)
                        go_wp2_with fail
                        refine wp_region_N (fun w' => Blk w' w.heap.size 25 #[.slice A0 s.files.length c0, .slice A1 s.opn.length c1, .int .i64 s.inp, .int .i64 s.out, .int .i64 s.nxt] ∧ Blk w' (w2.heap.size + 1) 52 #[.int .i64 s.nxt, .string name, .int .i64 mode, .int .i64 0, .string al, .int .i64 eof, .bool false]) (fun j => decide (j < 7)) (by kernel_rfl) ?_
                        have hS0 : (fun w' => Blk w' w.heap.size 25 #[.slice A0 s.files.length c0, .slice A1 s.opn.length c1, .int .i64 s.inp, .int .i64 s.out, .int .i64 s.nxt] ∧ Blk w' (w2.heap.size + 1) 52 #[.int .i64 s.nxt, .string name, .int .i64 mode, .int .i64 0, .string al, .int .i64 eof, .bool false]) w4.drew := ⟨k04, kx4⟩
                        refine wpAnyN_take (i := 0) (v := ?v1) rfl (by kernel_rfl) (by kernel_rfl) (by kernel_rfl) (by kernel_rfl) (fun _ _ _ h => h) (Or.inl ⟨by rfl, ?hy1⟩) (by assumption) ?_
                        case hy1 => intro w hSw; obtain ⟨y0, y1, y2, y3, y4⟩ := smBox hSw.1; have yc := hSw.2.cell 0; simp at yc; go_simp; try with_reducible rfl
                        simp only [Act.put, List.getElem_toArray, List.getElem_cons_zero, List.setIfInBounds_toArray, List.set_cons_zero, List.set_cons_succ]
                        refine wpAnyN_take (i := 4) (v := ?v2) rfl (by kernel_rfl) (by kernel_rfl) (by kernel_rfl) (by kernel_rfl) (fun _ _ _ h => h) (Or.inl ⟨by rfl, ?hy2⟩) (by assumption) ?_
                        case hy2 => intro w hSw; obtain ⟨y0, y1, y2, y3, y4⟩ := smBox hSw.1; have yc := hSw.2.cell 0; simp at yc; go_simp; try with_reducible rfl
                        simp only [Act.put, List.getElem_toArray, List.getElem_cons_zero, List.getElem_cons_succ, List.setIfInBounds_toArray, List.set_cons_zero, List.set_cons_succ]
                        refine wpAnyN_take (i := 5) (v := ?v3) rfl (by kernel_rfl) (by kernel_rfl) (by kernel_rfl) (by kernel_rfl) (fun _ _ _ h => h) (Or.inl ⟨by rfl, ?hy3⟩) (by assumption) ?_
                        case hy3 => intro w hSw; obtain ⟨y0, y1, y2, y3, y4⟩ := smBox hSw.1; have yc := hSw.2.cell 0; simp at yc; go_simp; try with_reducible rfl
                        simp only [Act.put, List.getElem_toArray, List.getElem_cons_zero, List.getElem_cons_succ, List.setIfInBounds_toArray, List.set_cons_zero, List.set_cons_succ]
                        refine wpAnyN_one (i := 1) (by kernel_rfl) rfl (fun K hK => ?_)
                        simp only [List.getElem_toArray, List.getElem_cons_zero, List.getElem_cons_succ]
                        go_simp
                        refine hK _ _ (fun _ => hS0) ?_
                        refine wpAnyN_one (i := 2) (by kernel_rfl) rfl (fun K hK => ?_)
                        simp only [List.getElem_toArray, List.getElem_cons_zero, List.getElem_cons_succ]
                        go_simp
                        refine hK _ _ (fun _ => hS0) ?_
                        refine wpAnyN_one (i := 3) (by kernel_rfl) rfl (fun K hK => ?_)
                        simp only [List.getElem_toArray, List.getElem_cons_zero, List.getElem_cons_succ]
                        go_simp
                        refine (with45_any _ s u w2.heap.size (w.heap.size + 1) (w.heap.size + 1 + 1) (w2.heap.size + 1) _ (HS.out.next (bDrewN HB4.out 1)) HU.out.1 HU.out.2 ?hap1).mono ?_
                        case hap1 =>
                          intro w6 B nb hnb hb6 hnw
                          simp at hnb
                          rw [← hu.out]
                          have hblt : ∀ {bb t cs}, Blk w4 bb t cs → Blk w6 bb t cs := fun h => Blk.next (w := w4.drew) h hb6
                          have hxx := gBox (x := openX s name mode al eof) (hblt kx4)
                          exact open2_any nb B w2.heap.size (w.heap.size + 1) (w.heap.size + 1 + 1) (w2.heap.size + 1) name mode (openX s name mode al eof) s w6 hnw (by have := kp4.lt; omega) (by omega) (by omega) (by have := kx4.lt; omega)
                            ⟨by have := (hblt kp4).cell 0; rw [HJ.out]; simpa using this, by have := (hblt k14).cell 0; simpa using this, by have := (hblt k24).cell 0; simpa using this, hxx⟩ (by omega) (by omega) (by omega)
                        rintro e w5 ⟨⟨v', rfl, ho⟩, hb5⟩
                        obtain ⟨v0, v1, rfl, o0, o1⟩ := ho
                        obtain ⟨D0, e0, rfl, -⟩ := own_form o0
                        obtain ⟨D1, e1, rfl, -⟩ := own_form o1
                        have HOW := Lib.hid (show OwnS w5 _ _ _ from ⟨_, _, rfl, o0, o1⟩)
                        have HB5 := Lib.hid (bNext (bDrewN HB4.out 1) hb5)
                        have k35 := Blk.next (w := w4.drew) k34 hb5
                        have hS5 := (show (fun w' => Blk w' w.heap.size 25 #[.slice A0 s.files.length c0, .slice A1 s.opn.length c1, .int .i64 s.inp, .int .i64 s.out, .int .i64 s.nxt] ∧ Blk w' (w2.heap.size + 1) 52 #[.int .i64 s.nxt, .string name, .int .i64 mode, .int .i64 0, .string al, .int .i64 eof, .bool false]) w5 from ⟨Blk.next (w := w4.drew) k04 hb5, Blk.next (w := w4.drew) kx4 hb5⟩)
                        have hzz := hb5.size
                        simp at hzz
                        clear z0 z1 z2 z3 z4 g0 g1 g2 g3 g4 hb5 o0 o1
                        have z0 := k35.cell 0
                        have z1 := k35.cell 1
                        have z2 := k35.cell 2
                        have z3 := k35.cell 3
                        have z4 := k35.cell 4
                        simp at z0 z1 z2 z3 z4
                        have g0 := k35.frozen 0
                        have g1 := k35.frozen 1
                        have g2 := k35.frozen 2
                        have g3 := k35.frozen 3
                        have g4 := k35.frozen 4
                        have zz := k35.lt
                        refine hK _ _ (fun _ => hS5) ?_
                        refine wpAnyN_one (i := 6) (by kernel_rfl) rfl (fun K hK => ?_)
                        simp only [List.getElem_toArray, List.getElem_cons_zero, List.getElem_cons_succ]
                        go_simp
                        refine hK _ _ (fun _ => ⟨by repeat (first | (with_reducible exact hS5.1) | (with_reducible refine Blk.far ?_ ?_ _); rotate_left; focus (first | (simp; done) | (simp; omega))), by repeat (first | (with_reducible exact hS5.2) | (with_reducible refine Blk.far ?_ ?_ _); rotate_left; focus (first | (simp; done) | (simp; omega)))⟩) ?_
                        refine wpAnyN_one (i := 7) (by kernel_rfl) rfl (fun K hK => ?_)
                        simp only [List.getElem_toArray, List.getElem_cons_zero, List.getElem_cons_succ]
                        go_simp
                        refine hK _ _ (fun h => absurd h (by decide)) ?_
                        refine wpAnyN_one (i := 8) (by kernel_rfl) rfl (fun K hK => ?_)
                        simp only [List.getElem_toArray, List.getElem_cons_zero, List.getElem_cons_succ]
                        go_simp
                        refine hK _ _ (fun h => absurd h (by decide)) ?_
                        refine wpAnyN_done (by kernel_rfl) ?_ _
                        go_wp2_with fail
                        refine bodyPost_ret (v := .tuple #[smV D0 D1 e0 e1 u, .int .i64 s.nxt, .int .i64 0]) (by simp only [results, Try.results15]; go_simp) rfl (RetG.good (HR.out.trans (by rw [hu.out])) ?_ ?_)
                        · refine (HOW.out.stay fun b' hb' _ => ?_).base (by simp; omega)
                          simp at hb'
                          repeat rw [heap_setCell_other _ _ _ _ (by simp; omega)]
                        · repeat (first | (with_reducible exact HB5.out) | (with_reducible refine bDrewN (n := 1) ?_) | ((with_reducible refine Below.setCell ?_ ?_ _); rotate_left; focus (first | (simp; done) | (simp; omega))) | ((with_reducible refine Below.alloc ?_ ?_ _); rotate_left; focus (first | (simp; done) | (simp; omega))))
              · have HR := Lib.hid (show openV s name mode al eof = .error 4 by rw [HRG.out, if_pos (by simp [hj0, hm1])])
                have HM1 := Lib.hid hm1
                go_wp2_with fail
                refine bodyPost_ret (v := .tuple #[zV, .int .i64 0, .int .i64 4]) (by simp only [results, Try.results15]; go_simp) rfl (RetG.bad HR.out ?_)
                repeat (first | (with_reducible exact HB2.out) | (with_reducible refine bDrewN (n := 1) ?_) | ((with_reducible refine Below.setCell ?_ ?_ _); rotate_left; focus (first | (simp; done) | (simp; omega))) | ((with_reducible refine Below.alloc ?_ ?_ _); rotate_left; focus (first | (simp; done) | (simp; omega))))
            · have hj1 : decide (j < 0) = false := by simp; omega
              have HRF := Lib.hid (show openV s name mode al eof = if 0 ≤ idxI s.opn (apP (openX s name mode al eof)) then .error 5 else if openFull s name then .error 13 else .ok (openS s name mode al eof, s.nxt) by rw [HRG.out, if_neg (by rw [hj1]; simp)])
              go_wp2_with fail
              obtain ⟨w3, HW3⟩ : ∃ w3, Hid (w3 = (w2.alloc (.cells #[.int .i64 j] 3)).alloc (.cells #[.int .i64 s.nxt, .string name, .int .i64 mode, .int .i64 0, .string al, .int .i64 eof, .bool false] 52)) := ⟨_, rfl⟩
              have HB3 := Lib.hid (show Below w.heap.size w w3 by rw [HW3.out]; exact (HB2.out.alloc (by omega) _).alloc (by simp; omega) _)
              have k03 : Blk w3 w.heap.size 25 #[.slice A0 s.files.length c0, .slice A1 s.opn.length c1, .int .i64 s.inp, .int .i64 s.out, .int .i64 s.nxt] := by rw [HW3.out]; exact (k02.alloc _).alloc _
              have k13 : Blk w3 (w.heap.size + 1) 9 #[.string name] := by rw [HW3.out]; exact (k12.alloc _).alloc _
              have k23 : Blk w3 (w.heap.size + 1 + 1) 3 #[.int .i64 mode] := by rw [HW3.out]; exact (k22.alloc _).alloc _
              have k33 : Blk w3 (w.heap.size + 1 + 1 + 1) 25 #[.slice none 0 0, .slice none 0 0, .int .i64 0, .int .i64 0, .int .i64 0] := by rw [HW3.out]; exact (k32.alloc _).alloc _
              have kp3 : Blk w3 w2.heap.size 3 #[.int .i64 j] := by rw [HW3.out]; exact (Blk.new w2 3 _).alloc _
              have kx3 : Blk w3 (w2.heap.size + 1) 52 #[.int .i64 s.nxt, .string name, .int .i64 mode, .int .i64 0, .string al, .int .i64 eof, .bool false] := by
                have h := Blk.new (w2.alloc (.cells #[.int .i64 j] 3)) 52 #[.int .i64 s.nxt, .string name, .int .i64 mode, .int .i64 0, .string al, .int .i64 eof, .bool false]
                rw [World.size_alloc] at h
                rw [HW3.out]; exact h
              have hxx := gBox (x := openX s name mode al eof) kx3
              rw [← HW3.out]
              refine (index43_any A1 s.opn.length c1 s.opn (w2.heap.size + 1) (openX s name mode al eof) _ (HO.out.next HB3.out) kx3.lt hxx.1 hxx.2.1 hxx.2.2.1 hxx.2.2.2.1 hxx.2.2.2.2.1 hxx.2.2.2.2.2.1 hxx.2.2.2.2.2.2).mono ?_
              rintro e w4 ⟨rfl, hb4⟩
              have HB4 := Lib.hid (bNext HB3.out hb4)
              have k04 := k03.next hb4
              have k14 := k13.next hb4
              have k24 := k23.next hb4
              have k34 := k33.next hb4
              have kp4 := kp3.next hb4
              have kx4 := kx3.next hb4
              have hw2s := k32.lt
              clear p0 p1 p2 p3 p4 z0 z1 z2 z3 z4 g0 g1 g2 g3 g4 cn cm hz0 hz1 hz2 hz3
              have hz3 := k34.lt
              have hz0 : w.heap.size < w4.heap.size := by omega
              have hz1 : w.heap.size + 1 < w4.heap.size := by omega
              have hz2 : w.heap.size + 1 + 1 < w4.heap.size := by omega
              obtain ⟨p0, p1, p2, p3, p4⟩ := smBox k04
              have z0 := k34.cell 0
              have z1 := k34.cell 1
              have z2 := k34.cell 2
              have z3 := k34.cell 3
              have z4 := k34.cell 4
              simp at z0 z1 z2 z3 z4
              have g0 := k34.frozen 0
              have g1 := k34.frozen 1
              have g2 := k34.frozen 2
              have g3 := k34.frozen 3
              have g4 := k34.frozen 4
              have cn := k14.cell 0
              have cm := k24.cell 0
              simp at cn cm
              have cj := kp4.cell 0
              have cx := kx4.cell 0
              simp at cj cx
              have zj := kp4.lt
              have zx := kx4.lt
              clear hxx hb4 k03 k13 k23 k33 kp3 kx3 k02 k12 k22 k32 HW3
              obtain ⟨q, hq⟩ : ∃ q, idxI s.opn (apP (openX s name mode al eof)) = q := ⟨_, rfl⟩
              rw [hq] at HRF ⊢
              clear hq
              by_cases hq0 : 0 ≤ q
              · have HR := Lib.hid (show openV s name mode al eof = .error 5 by rw [HRF.out, if_pos hq0])
                go_wp2_with fail
                refine bodyPost_ret (v := .tuple #[zV, .int .i64 0, .int .i64 5]) (by simp only [results, Try.results15]; go_simp) rfl (RetG.bad HR.out ?_)
                repeat (first | (with_reducible exact HB4.out) | (with_reducible refine bDrewN (n := 1) ?_) | ((with_reducible refine Below.setCell ?_ ?_ _); rotate_left; focus (first | (simp; done) | (simp; omega))) | ((with_reducible refine Below.alloc ?_ ?_ _); rotate_left; focus (first | (simp; done) | (simp; omega))))
              · have HRE := Lib.hid (show openV s name mode al eof = if openFull s name then .error 13 else .ok (openS s name mode al eof, s.nxt) by rw [HRF.out, if_neg hq0])
                by_cases h16 : 16 ≤ (s.opn.length : Int)
                · have HR := Lib.hid (show openV s name mode al eof = .error 13 by rw [HRE.out]; simp [openFull, h16])
                  go_wp2_with fail
                  refine bodyPost_ret (v := .tuple #[zV, .int .i64 0, .int .i64 13]) (by simp only [results, Try.results15]; go_simp) rfl (RetG.bad HR.out ?_)
                  repeat (first | (with_reducible exact HB4.out) | (with_reducible refine bDrewN (n := 1) ?_) | ((with_reducible refine Below.setCell ?_ ?_ _); rotate_left; focus (first | (simp; done) | (simp; omega))) | ((with_reducible refine Below.alloc ?_ ?_ _); rotate_left; focus (first | (simp; done) | (simp; omega))))
                · cases hnx : s.nxt == 1073741824
                  case true =>
                    have HR := Lib.hid (show openV s name mode al eof = .error 13 by rw [HRE.out]; simp [openFull, hnx])
                    have HNX := Lib.hid hnx
                    go_wp2_with fail
                    refine bodyPost_ret (v := .tuple #[zV, .int .i64 0, .int .i64 13]) (by simp only [results, Try.results15]; go_simp) rfl (RetG.bad HR.out ?_)
                    repeat (first | (with_reducible exact HB4.out) | (with_reducible refine bDrewN (n := 1) ?_) | ((with_reducible refine Below.setCell ?_ ?_ _); rotate_left; focus (first | (simp; done) | (simp; omega))) | ((with_reducible refine Below.alloc ?_ ?_ _); rotate_left; focus (first | (simp; done) | (simp; omega))))
                  case false =>
                    have HR := Lib.hid (show openV s name mode al eof = .ok (openS s name mode al eof, s.nxt) by rw [HRE.out, show openFull s name = false by unfold openFull; rw [HJ.out, hj1, hnx]; simp; omega]; rfl)
                    obtain ⟨u, hu⟩ : ∃ u, Hid (openS s name mode al eof = u) := ⟨_, rfl⟩
                    have HU := Lib.hid (show u.files.length ≤ 4398046511104 ∧ u.opn.length ≤ 1954687338268 by
                      rw [← hu.out]
                      refine ⟨?_, ?_⟩
                      · show (openF s.files name mode).length ≤ _
                        have := openF_len s.files name mode
                        omega
                      · show (s.opn ++ [_]).length ≤ _
                        rw [List.length_append]
                        simp only [List.length_cons, List.length_nil]
                        omega)
                    go_wp2_with fail
                    refine wp_region_N (fun w' => Blk w' w.heap.size 25 #[.slice A0 s.files.length c0, .slice A1 s.opn.length c1, .int .i64 s.inp, .int .i64 s.out, .int .i64 s.nxt] ∧ Blk w' (w2.heap.size + 1) 52 #[.int .i64 s.nxt, .string name, .int .i64 mode, .int .i64 0, .string al, .int .i64 eof, .bool false]) (fun j => decide (j < 7)) (by kernel_rfl) ?_
                    have hS0 : (fun w' => Blk w' w.heap.size 25 #[.slice A0 s.files.length c0, .slice A1 s.opn.length c1, .int .i64 s.inp, .int .i64 s.out, .int .i64 s.nxt] ∧ Blk w' (w2.heap.size + 1) 52 #[.int .i64 s.nxt, .string name, .int .i64 mode, .int .i64 0, .string al, .int .i64 eof, .bool false]) w4.drew := ⟨k04, kx4⟩
                    refine wpAnyN_take (i := 0) (v := ?v4) rfl (by kernel_rfl) (by kernel_rfl) (by kernel_rfl) (by kernel_rfl) (fun _ _ _ h => h) (Or.inl ⟨by rfl, ?hy4⟩) (by assumption) ?_
                    case hy4 => intro w hSw; obtain ⟨y0, y1, y2, y3, y4⟩ := smBox hSw.1; have yc := hSw.2.cell 0; simp at yc; go_simp; try with_reducible rfl
                    simp only [Act.put, List.getElem_toArray, List.getElem_cons_zero, List.setIfInBounds_toArray, List.set_cons_zero, List.set_cons_succ]
                    refine wpAnyN_take (i := 4) (v := ?v5) rfl (by kernel_rfl) (by kernel_rfl) (by kernel_rfl) (by kernel_rfl) (fun _ _ _ h => h) (Or.inl ⟨by rfl, ?hy5⟩) (by assumption) ?_
                    case hy5 => intro w hSw; obtain ⟨y0, y1, y2, y3, y4⟩ := smBox hSw.1; have yc := hSw.2.cell 0; simp at yc; go_simp; try with_reducible rfl
                    simp only [Act.put, List.getElem_toArray, List.getElem_cons_zero, List.getElem_cons_succ, List.setIfInBounds_toArray, List.set_cons_zero, List.set_cons_succ]
                    refine wpAnyN_take (i := 5) (v := ?v6) rfl (by kernel_rfl) (by kernel_rfl) (by kernel_rfl) (by kernel_rfl) (fun _ _ _ h => h) (Or.inl ⟨by rfl, ?hy6⟩) (by assumption) ?_
                    case hy6 => intro w hSw; obtain ⟨y0, y1, y2, y3, y4⟩ := smBox hSw.1; have yc := hSw.2.cell 0; simp at yc; go_simp; try with_reducible rfl
                    simp only [Act.put, List.getElem_toArray, List.getElem_cons_zero, List.getElem_cons_succ, List.setIfInBounds_toArray, List.set_cons_zero, List.set_cons_succ]
                    refine wpAnyN_one (i := 1) (by kernel_rfl) rfl (fun K hK => ?_)
                    simp only [List.getElem_toArray, List.getElem_cons_zero, List.getElem_cons_succ]
                    go_simp
                    refine hK _ _ (fun _ => hS0) ?_
                    refine wpAnyN_one (i := 2) (by kernel_rfl) rfl (fun K hK => ?_)
                    simp only [List.getElem_toArray, List.getElem_cons_zero, List.getElem_cons_succ]
                    go_simp
                    refine hK _ _ (fun _ => hS0) ?_
                    refine wpAnyN_one (i := 3) (by kernel_rfl) rfl (fun K hK => ?_)
                    simp only [List.getElem_toArray, List.getElem_cons_zero, List.getElem_cons_succ]
                    go_simp
                    refine (with45_any _ s u w2.heap.size (w.heap.size + 1) (w.heap.size + 1 + 1) (w2.heap.size + 1) _ (HS.out.next (bDrewN HB4.out 1)) HU.out.1 HU.out.2 ?hap1).mono ?_
                    case hap1 =>
                      intro w6 B nb hnb hb6 hnw
                      simp at hnb
                      rw [← hu.out]
                      have hblt : ∀ {bb t cs}, Blk w4 bb t cs → Blk w6 bb t cs := fun h => Blk.next (w := w4.drew) h hb6
                      have hxx := gBox (x := openX s name mode al eof) (hblt kx4)
                      exact open2_any nb B w2.heap.size (w.heap.size + 1) (w.heap.size + 1 + 1) (w2.heap.size + 1) name mode (openX s name mode al eof) s w6 hnw (by have := kp4.lt; omega) (by omega) (by omega) (by have := kx4.lt; omega)
                        ⟨by have := (hblt kp4).cell 0; rw [HJ.out]; simpa using this, by have := (hblt k14).cell 0; simpa using this, by have := (hblt k24).cell 0; simpa using this, hxx⟩ (by omega) (by omega) (by omega)
                    rintro e w5 ⟨⟨v', rfl, ho⟩, hb5⟩
                    obtain ⟨v0, v1, rfl, o0, o1⟩ := ho
                    obtain ⟨D0, e0, rfl, -⟩ := own_form o0
                    obtain ⟨D1, e1, rfl, -⟩ := own_form o1
                    have HOW := Lib.hid (show OwnS w5 _ _ _ from ⟨_, _, rfl, o0, o1⟩)
                    have HB5 := Lib.hid (bNext (bDrewN HB4.out 1) hb5)
                    have k35 := Blk.next (w := w4.drew) k34 hb5
                    have hS5 := (show (fun w' => Blk w' w.heap.size 25 #[.slice A0 s.files.length c0, .slice A1 s.opn.length c1, .int .i64 s.inp, .int .i64 s.out, .int .i64 s.nxt] ∧ Blk w' (w2.heap.size + 1) 52 #[.int .i64 s.nxt, .string name, .int .i64 mode, .int .i64 0, .string al, .int .i64 eof, .bool false]) w5 from ⟨Blk.next (w := w4.drew) k04 hb5, Blk.next (w := w4.drew) kx4 hb5⟩)
                    have hzz := hb5.size
                    simp at hzz
                    clear z0 z1 z2 z3 z4 g0 g1 g2 g3 g4 hb5 o0 o1
                    have z0 := k35.cell 0
                    have z1 := k35.cell 1
                    have z2 := k35.cell 2
                    have z3 := k35.cell 3
                    have z4 := k35.cell 4
                    simp at z0 z1 z2 z3 z4
                    have g0 := k35.frozen 0
                    have g1 := k35.frozen 1
                    have g2 := k35.frozen 2
                    have g3 := k35.frozen 3
                    have g4 := k35.frozen 4
                    have zz := k35.lt
                    refine hK _ _ (fun _ => hS5) ?_
                    refine wpAnyN_one (i := 6) (by kernel_rfl) rfl (fun K hK => ?_)
                    simp only [List.getElem_toArray, List.getElem_cons_zero, List.getElem_cons_succ]
                    go_simp
                    refine hK _ _ (fun _ => ⟨by repeat (first | (with_reducible exact hS5.1) | (with_reducible refine Blk.far ?_ ?_ _); rotate_left; focus (first | (simp; done) | (simp; omega))), by repeat (first | (with_reducible exact hS5.2) | (with_reducible refine Blk.far ?_ ?_ _); rotate_left; focus (first | (simp; done) | (simp; omega)))⟩) ?_
                    refine wpAnyN_one (i := 7) (by kernel_rfl) rfl (fun K hK => ?_)
                    simp only [List.getElem_toArray, List.getElem_cons_zero, List.getElem_cons_succ]
                    go_simp
                    refine hK _ _ (fun h => absurd h (by decide)) ?_
                    refine wpAnyN_one (i := 8) (by kernel_rfl) rfl (fun K hK => ?_)
                    simp only [List.getElem_toArray, List.getElem_cons_zero, List.getElem_cons_succ]
                    go_simp
                    refine hK _ _ (fun h => absurd h (by decide)) ?_
                    refine wpAnyN_done (by kernel_rfl) ?_ _
                    go_wp2_with fail
                    refine bodyPost_ret (v := .tuple #[smV D0 D1 e0 e1 u, .int .i64 s.nxt, .int .i64 0]) (by simp only [results, Try.results15]; go_simp) rfl (RetG.good (HR.out.trans (by rw [hu.out])) ?_ ?_)
                    · refine (HOW.out.stay fun b' hb' _ => ?_).base (by simp; omega)
                      simp at hb'
                      repeat rw [heap_setCell_other _ _ _ _ (by simp; omega)]
                    · repeat (first | (with_reducible exact HB5.out) | (with_reducible refine bDrewN (n := 1) ?_) | ((with_reducible refine Below.setCell ?_ ?_ _); rotate_left; focus (first | (simp; done) | (simp; omega))) | ((with_reducible refine Below.alloc ?_ ?_ _); rotate_left; focus (first | (simp; done) | (simp; omega))))
end Go.Proofs.Ytklpghpfdeojeaa
