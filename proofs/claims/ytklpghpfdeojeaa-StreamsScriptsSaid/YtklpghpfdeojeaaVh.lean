/-
  Walk: Open of the reference.
-/
import Derived.Test.YtklpghpfdeojeaaVb
import Derived.Test.YtklpghpfdeojeaaUk
import Derived.Deep.Cut
namespace Go.Proofs.Ytklpghpfdeojeaa
open Go.RowKit

theorem eqS_comm (a b : ByteArray) : eqS a b = eqS b a := Bool.eq_iff_iff.2 (by unfold eqS; rw [beq_iff_eq, beq_iff_eq]; exact eq_comm)
theorem ap_eq (s : Sm) (name al : ByteArray) (mode eof : Int) (y : G) : apP (openX s name mode al eof) y = if (!al.toList.isEmpty && eqS y.alias_ al) = true then true else (eqS y.file name && (mode != 1 || y.mode != 1)) := by
  have h1 := eqS_comm al y.alias_
  have h2 := eqS_comm name y.file
  simp only [apP, apartB, h1, h2, bne]
  cases al.toList.isEmpty <;> cases eqS y.alias_ al <;> cases eqS y.file name <;> cases mode == 1 <;> cases y.mode == 1 <;> rfl
theorem kind_split (n : Int) : kindB n = (decide (1 ≤ n) && decide (n ≤ 3)) := rfl

set_option maxRecDepth 100000 in
set_option maxHeartbeats 8000000 in
theorem Open_any (v : Value) (s : Sm) (name : ByteArray) (mode : Int) (al : ByteArray) (eof : Int) (w : World) (hs : SmAt w w.heap.size v s) :
    Calls Try.prog 55 #[v, .string name, .int .i64 mode, .string al, .int .i64 eof] w (RetG (openV s name mode al eof) w) := by
  obtain ⟨i1, hi1, hz1, hy1, hb1⟩ := info_parts info52
  obtain ⟨A0, c0, A1, c1, rfl, hcap, h0, h1⟩ := hs
  have HS : Hid (SmAt w w.heap.size (smV A0 A1 c0 c1 s) s) := ⟨A0, c0, A1, c1, rfl, hcap, h0, h1⟩
  have HA := Lib.hid h0
  have HO := Lib.hid h1
  have hfl := h0.1.2
  have hol := h1.1.2
  clear h0 h1 hcap
  obtain ⟨W, HWd⟩ : ∃ W, Hid (W = (((w.alloc (.cells #[.slice A0 s.files.length c0, .slice A1 s.opn.length c1, .int .i64 s.inp, .int .i64 s.out, .int .i64 s.nxt] 25)).alloc (.cells #[.slice none 0 0, .slice none 0 0, .int .i64 0, .int .i64 0, .int .i64 0] 25)).alloc (.cells #[.slice none 0 0, .slice none 0 0, .int .i64 0, .int .i64 0, .int .i64 0] 25))) := ⟨_, rfl⟩
  have hbW : Below w.heap.size w W := by
    rw [HWd.out]
    exact (Below.alloc (Below.alloc (bAlloc w _) (by simp) _) (by simp; omega) _)
  have hzW : W.heap.size = w.heap.size + 3 := by rw [HWd.out]; simp
  have k0 : Blk W w.heap.size 25 #[.slice A0 s.files.length c0, .slice A1 s.opn.length c1, .int .i64 s.inp, .int .i64 s.out, .int .i64 s.nxt] := by rw [HWd.out]; exact (Blk.alloc (Blk.alloc (Blk.new _ _ _) (.cells #[.slice none 0 0, .slice none 0 0, .int .i64 0, .int .i64 0, .int .i64 0] 25)) (.cells #[.slice none 0 0, .slice none 0 0, .int .i64 0, .int .i64 0, .int .i64 0] 25))
  have k1 : Blk W (w.heap.size + 1) 25 #[.slice none 0 0, .slice none 0 0, .int .i64 0, .int .i64 0, .int .i64 0] := by
    have h := (Blk.alloc (Blk.new (w.alloc (.cells #[.slice A0 s.files.length c0, .slice A1 s.opn.length c1, .int .i64 s.inp, .int .i64 s.out, .int .i64 s.nxt] 25)) 25 #[.slice none 0 0, .slice none 0 0, .int .i64 0, .int .i64 0, .int .i64 0]) (.cells #[.slice none 0 0, .slice none 0 0, .int .i64 0, .int .i64 0, .int .i64 0] 25))
    rw [World.size_alloc] at h
    rw [HWd.out]; exact h
  have k2 : Blk W (w.heap.size + 1 + 1) 25 #[.slice none 0 0, .slice none 0 0, .int .i64 0, .int .i64 0, .int .i64 0] := by
    have h := (Blk.new ((w.alloc (.cells #[.slice A0 s.files.length c0, .slice A1 s.opn.length c1, .int .i64 s.inp, .int .i64 s.out, .int .i64 s.nxt] 25)).alloc (.cells #[.slice none 0 0, .slice none 0 0, .int .i64 0, .int .i64 0, .int .i64 0] 25)) 25 #[.slice none 0 0, .slice none 0 0, .int .i64 0, .int .i64 0, .int .i64 0])
    rw [World.size_alloc, World.size_alloc] at h
    rw [HWd.out]; exact h
  have HBW := Lib.hid hbW
  clear hbW
  go_enter Try.func55, Try.ntmps55
  go_wp2_with fail
  rw [← HWd.out]
  refine (rvalid_any _ s _ (HS.out.next HBW.out)).mono ?_
  rintro e w1 ⟨rfl, hb1⟩
  have HB1 := Lib.hid (bNext HBW.out hb1)
  have k01 := k0.next hb1
  have k11 := k1.next hb1
  have k21 := k2.next hb1
  clear k0 k1 k2 hb1
  obtain ⟨p0, p1, p2, p3, p4⟩ := smBox k01
  have z0 := k11.cell 0
  have z1 := k11.cell 1
  have z2 := k11.cell 2
  have z3 := k11.cell 3
  have z4 := k11.cell 4
  simp at z0 z1 z2 z3 z4
  have g0 := k11.frozen 0
  have g1 := k11.frozen 1
  have g2 := k11.frozen 2
  have g3 := k11.frozen 3
  have g4 := k11.frozen 4
  have m0 := k21.cell 0
  have m1 := k21.cell 1
  have m2 := k21.cell 2
  have m3 := k21.cell 3
  have m4 := k21.cell 4
  simp at m0 m1 m2 m3 m4
  have zz := k11.lt
  have zm := k21.lt
  have hz0 : w.heap.size < w1.heap.size := by omega
  cases hv : validB s
  · have HR := Lib.hid (openV_arg (show openArg s name mode al eof = false by simp [openArg, hv]))
    go_wp2_with fail
    refine bodyPost_ret (v := .tuple #[zV, .int .i64 0, .int .i64 1]) (by simp only [results, Try.results55]; go_simp) rfl (RetG.bad HR.out ?_)
    repeat (first | (with_reducible exact HB1.out) | (with_reducible refine bDrewN (n := 1) ?_) | ((with_reducible refine Below.setCell ?_ ?_ _); rotate_left; focus (first | (simp; done) | (simp; omega))) | ((with_reducible refine Below.alloc ?_ ?_ _); rotate_left; focus (first | (simp; done) | (simp; omega))))
  · have HV := Lib.hid hv
    go_wp2_with fail
    refine (isName_any name _).mono ?_
    rintro e w2 ⟨rfl, rfl⟩
    cases hnm : namedB name
    · have HR := Lib.hid (openV_arg (show openArg s name mode al eof = false by simp [openArg, hnm]))
      go_wp2_with fail
      refine bodyPost_ret (v := .tuple #[zV, .int .i64 0, .int .i64 1]) (by simp only [results, Try.results55]; go_simp) rfl (RetG.bad HR.out ?_)
      repeat (first | (with_reducible exact HB1.out) | (with_reducible refine bDrewN (n := 1) ?_) | ((with_reducible refine Below.setCell ?_ ?_ _); rotate_left; focus (first | (simp; done) | (simp; omega))) | ((with_reducible refine Below.alloc ?_ ?_ _); rotate_left; focus (first | (simp; done) | (simp; omega))))
    · have HNM := Lib.hid hnm
      by_cases hm1 : 1 ≤ mode
      case neg =>
        have HR := Lib.hid (openV_arg (show openArg s name mode al eof = false by simp [openArg, kind_split, hm1]))
        go_wp2_with fail
        refine bodyPost_ret (v := .tuple #[zV, .int .i64 0, .int .i64 1]) (by simp only [results, Try.results55]; go_simp) rfl (RetG.bad HR.out ?_)
        repeat (first | (with_reducible exact HB1.out) | (with_reducible refine bDrewN (n := 1) ?_) | ((with_reducible refine Below.setCell ?_ ?_ _); rotate_left; focus (first | (simp; done) | (simp; omega))) | ((with_reducible refine Below.alloc ?_ ?_ _); rotate_left; focus (first | (simp; done) | (simp; omega))))
      case pos =>
        by_cases hm3 : mode ≤ 3
        case neg =>
          have HR := Lib.hid (openV_arg (show openArg s name mode al eof = false by simp [openArg, kind_split, hm3]))
          go_wp2_with fail
          refine bodyPost_ret (v := .tuple #[zV, .int .i64 0, .int .i64 1]) (by simp only [results, Try.results55]; go_simp) rfl (RetG.bad HR.out ?_)
          repeat (first | (with_reducible exact HB1.out) | (with_reducible refine bDrewN (n := 1) ?_) | ((with_reducible refine Below.setCell ?_ ?_ _); rotate_left; focus (first | (simp; done) | (simp; omega))) | ((with_reducible refine Below.alloc ?_ ?_ _); rotate_left; focus (first | (simp; done) | (simp; omega))))
        case pos =>
          by_cases hal : (al.size : Int) ≤ 100
          case neg =>
            have HR := Lib.hid (openV_arg (show openArg s name mode al eof = false by simp [openArg, kind_split, hal]))
            go_wp2_with fail
            refine bodyPost_ret (v := .tuple #[zV, .int .i64 0, .int .i64 1]) (by simp only [results, Try.results55]; go_simp) rfl (RetG.bad HR.out ?_)
            repeat (first | (with_reducible exact HB1.out) | (with_reducible refine bDrewN (n := 1) ?_) | ((with_reducible refine Below.setCell ?_ ?_ _); rotate_left; focus (first | (simp; done) | (simp; omega))) | ((with_reducible refine Below.alloc ?_ ?_ _); rotate_left; focus (first | (simp; done) | (simp; omega))))
          case pos =>
            by_cases he1 : 1 ≤ eof
            case neg =>
              have HR := Lib.hid (openV_arg (show openArg s name mode al eof = false by simp [openArg, kind_split, he1]))
              go_wp2_with fail
              refine bodyPost_ret (v := .tuple #[zV, .int .i64 0, .int .i64 1]) (by simp only [results, Try.results55]; go_simp) rfl (RetG.bad HR.out ?_)
              repeat (first | (with_reducible exact HB1.out) | (with_reducible refine bDrewN (n := 1) ?_) | ((with_reducible refine Below.setCell ?_ ?_ _); rotate_left; focus (first | (simp; done) | (simp; omega))) | ((with_reducible refine Below.alloc ?_ ?_ _); rotate_left; focus (first | (simp; done) | (simp; omega))))
            case pos =>
              by_cases he3 : eof ≤ 3
              case neg =>
                have HR := Lib.hid (openV_arg (show openArg s name mode al eof = false by simp [openArg, kind_split, he3]))
                go_wp2_with fail
                refine bodyPost_ret (v := .tuple #[zV, .int .i64 0, .int .i64 1]) (by simp only [results, Try.results55]; go_simp) rfl (RetG.bad HR.out ?_)
                repeat (first | (with_reducible exact HB1.out) | (with_reducible refine bDrewN (n := 1) ?_) | ((with_reducible refine Below.setCell ?_ ?_ _); rotate_left; focus (first | (simp; done) | (simp; omega))) | ((with_reducible refine Below.alloc ?_ ?_ _); rotate_left; focus (first | (simp; done) | (simp; omega))))
              case pos =>
                have HARG := Lib.hid (show openArg s name mode al eof = true by simp [openArg, kind_split, HV.out, HNM.out, hm1, hm3, hal, he1, he3])
                have HRG := Lib.hid (openV_go HARG.out)
                obtain ⟨hvf, hvo, hvn1, hvn2, -, -⟩ := valid_head HV.out
                have hv2 := valid_two HV.out
                clear hv hnm
                go_wp2_with fail
                refine (rfile_any A0 s.files.length c0 s.files name _ (HA.out.next HB1.out)).mono ?_
                rintro e w2 ⟨rfl, rfl⟩
                obtain ⟨j, hj⟩ : ∃ j, idxI s.files (fileP name) = j := ⟨_, rfl⟩
                have HJ := Lib.hid hj
                rw [hj] at HRG ⊢
                clear hj
                by_cases hbad : (decide (j < 0) && mode == 1) = true
                case pos =>
                  have HR := Lib.hid (show openV s name mode al eof = .error 4 by rw [HRG.out, if_pos hbad])
                  have hj0 : j < 0 := by have := and_left hbad; simpa using this
                  have hmm : (mode == 1) = true := and_right hbad
                  clear hbad
                  go_wp2_with fail
                  refine bodyPost_ret (v := .tuple #[zV, .int .i64 0, .int .i64 4]) (by simp only [results, Try.results55]; go_simp) rfl (RetG.bad HR.out ?_)
                  repeat (first | (with_reducible exact HB1.out) | (with_reducible refine bDrewN (n := 1) ?_) | ((with_reducible refine Below.setCell ?_ ?_ _); rotate_left; focus (first | (simp; done) | (simp; omega))) | ((with_reducible refine Below.alloc ?_ ?_ _); rotate_left; focus (first | (simp; done) | (simp; omega))))
                case neg =>
                  have HRF := Lib.hid (show openV s name mode al eof = if 0 ≤ idxI s.opn (apP (openX s name mode al eof)) then .error 5 else if openFull s name then .error 13 else .ok (openS s name mode al eof, s.nxt) by rw [HRG.out, if_neg hbad])
                  have hcase : (mode == 1) = false ∨ (mode == 1) = true ∧ ¬ j < 0 := by
                    cases h : mode == 1
                    · exact .inl rfl
                    · refine .inr ⟨rfl, fun h2 => hbad ?_⟩
                      rw [h]; simpa using h2
                  clear hbad
                  rcases hcase with hmm | ⟨hmm, hj0⟩
                  · have HMM := Lib.hid hmm
                    go_wp2_with fail
                    go_loopw [15] (fun i wr => ∃ k : Nat, k ≤ s.opn.length ∧ i = .int .i64 k ∧ Hid (∀ (q : Nat) z, q < k → s.opn[q]? = some z → apP (openX s name mode al eof) z = false) ∧ Hid (Below w.heap.size w wr) ∧ Hid (Blk wr w.heap.size 25 #[.slice A0 s.files.length c0, .slice A1 s.opn.length c1, .int .i64 s.inp, .int .i64 s.out, .int .i64 s.nxt]) ∧ Hid (Blk wr (w.heap.size + 1) 25 #[.slice none 0 0, .slice none 0 0, .int .i64 0, .int .i64 0, .int .i64 0]) ∧ Hid (Blk wr (w.heap.size + 1 + 1) 25 #[.slice none 0 0, .slice none 0 0, .int .i64 0, .int .i64 0, .int .i64 0])) (fun i _ => s.opn.length - (intOf i).toNat)
                    case atStart => exact ⟨0, by omega, rfl, Lib.hid fun q z h => absurd h (by omega), HB1.out, k01, k11, k21⟩
                    case round =>
                      obtain ⟨k, hk, rfl, HP, HBr, K0, K1, K2⟩ := hrel
                      have k0r := K0.out
                      have k1r := K1.out
                      have k2r := K2.out
                      clear p0 p1 p2 p3 p4 z0 z1 z2 z3 z4 g0 g1 g2 g3 g4 zz hz0 m0 m1 m2 m3 m4 zm
                      obtain ⟨p0, p1, p2, p3, p4⟩ := smBox k0r
                      have z0 := k1r.cell 0
                      have z1 := k1r.cell 1
                      have z2 := k1r.cell 2
                      have z3 := k1r.cell 3
                      have z4 := k1r.cell 4
                      simp at z0 z1 z2 z3 z4
                      have g0 := k1r.frozen 0
                      have g1 := k1r.frozen 1
                      have g2 := k1r.frozen 2
                      have g3 := k1r.frozen 3
                      have g4 := k1r.frozen 4
                      have m0 := k2r.cell 0
                      have m1 := k2r.cell 1
                      have m2 := k2r.cell 2
                      have m3 := k2r.cell 3
                      have m4 := k2r.cell 4
                      simp at m0 m1 m2 m3 m4
                      have zz := k1r.lt
                      have zm := k2r.lt
                      have hz0 : w.heap.size < wr.heap.size := by omega
                      by_cases hlt : k < s.opn.length
                      · obtain ⟨b, off, y, rfl, hb, hy, hy4⟩ := HO.out.at hlt
                        obtain ⟨q0, q1, q2, q3, q4, q5, q6⟩ := hy4.below hb HBr.out
                        have HY := Lib.hid hy
                        have hkli : (k : Int) < (s.opn.length : Int) := by omega
                        have HBn := Lib.hid (HBr.out.alloc (by omega) (.cells #[.int .i64 y.id, .string y.file, .int .i64 y.mode, .int .i64 y.pos, .string y.alias_, .int .i64 y.eof, .bool y.past] 52))
                        have K0n := Lib.hid (k0r.alloc (.cells #[.int .i64 y.id, .string y.file, .int .i64 y.mode, .int .i64 y.pos, .string y.alias_, .int .i64 y.eof, .bool y.past] 52))
                        have K1n := Lib.hid (k1r.alloc (.cells #[.int .i64 y.id, .string y.file, .int .i64 y.mode, .int .i64 y.pos, .string y.alias_, .int .i64 y.eof, .bool y.past] 52))
                        have K2n := Lib.hid (k2r.alloc (.cells #[.int .i64 y.id, .string y.file, .int .i64 y.mode, .int .i64 y.pos, .string y.alias_, .int .i64 y.eof, .bool y.past] 52))
                        clear hy hy4 k0r k1r k2r
                        have hret : Hid (apP (openX s name mode al eof) y = true → openV s name mode al eof = .error 5) := fun h => by
                          rw [HRF.out, idxI_yes HY.out h HP.out, if_pos (by omega)]
                        have hnxt : Hid (apP (openX s name mode al eof) y = false → ∀ (q : Nat) z, q < k + 1 → s.opn[q]? = some z → apP (openX s name mode al eof) z = false) := fun h q z hq hz => by
                          rcases Nat.lt_or_ge q k with h1 | h1
                          · exact HP.out q z h1 hz
                          · rw [show q = k by omega, HY.out] at hz
                            injection hz with hz
                            rw [← hz]; exact h
                        have hmn : (mode != 1) = true := by simp [bne, hmm]
                        cases hmy : (y.mode != 1)
                        all_goals go_wp2_with fail
                        all_goals first
                          | exact ⟨⟨k + 1, by omega, by go_num, hnxt.out (by rw [ap_eq]; first | (simp [*]; done) | (simp_all; done)), HBn.out, K0n.out, K1n.out, K2n.out⟩, by simp [intOf]; omega⟩
                          | (have HR := Lib.hid (hret.out (by rw [ap_eq]; first | (simp [*]; done) | (simp_all; done)))
                             refine bodyPost_ret (v := .tuple #[zV, .int .i64 0, .int .i64 5]) (by simp only [results, Try.results55]; go_simp) rfl (RetG.bad HR.out ?_)
                             repeat (first | (with_reducible exact HBr.out) | (with_reducible refine bDrewN (n := 1) ?_) | ((with_reducible refine Below.setCell ?_ ?_ _); rotate_left; focus (first | (simp; done) | (simp; omega))) | ((with_reducible refine Below.alloc ?_ ?_ _); rotate_left; focus (first | (simp; done) | (simp; omega)))))
                      · have HRE := Lib.hid (show openV s name mode al eof = if openFull s name then .error 13 else .ok (openS s name mode al eof, s.nxt) by
                          rw [HRF.out, idxI_no (l := s.opn) (p := apP (openX s name mode al eof)) (fun q z hz => HP.out q z (by have := (List.getElem?_eq_some_iff.1 hz).1; omega) hz), if_neg (by omega)])
                        obtain rfl : k = s.opn.length := by omega
                        clear hk hlt HP
                        by_cases h16 : 16 ≤ (s.opn.length : Int)
                        · have HR := Lib.hid (show openV s name mode al eof = .error 13 by rw [HRE.out]; simp [openFull, h16])
                          go_wp2_with fail
                          refine bodyPost_ret (v := .tuple #[zV, .int .i64 0, .int .i64 13]) (by simp only [results, Try.results55]; go_simp) rfl (RetG.bad HR.out ?_)
                          repeat (first | (with_reducible exact HBr.out) | (with_reducible refine bDrewN (n := 1) ?_) | ((with_reducible refine Below.setCell ?_ ?_ _); rotate_left; focus (first | (simp; done) | (simp; omega))) | ((with_reducible refine Below.alloc ?_ ?_ _); rotate_left; focus (first | (simp; done) | (simp; omega))))
                        · by_cases hnx : 1073741824 ≤ s.nxt
                          · have HR := Lib.hid (show openV s name mode al eof = .error 13 by rw [HRE.out]; simp [openFull, show s.nxt = 1073741824 by omega])
                            go_wp2_with fail
                            refine bodyPost_ret (v := .tuple #[zV, .int .i64 0, .int .i64 13]) (by simp only [results, Try.results55]; go_simp) rfl (RetG.bad HR.out ?_)
                            repeat (first | (with_reducible exact HBr.out) | (with_reducible refine bDrewN (n := 1) ?_) | ((with_reducible refine Below.setCell ?_ ?_ _); rotate_left; focus (first | (simp; done) | (simp; omega))) | ((with_reducible refine Below.alloc ?_ ?_ _); rotate_left; focus (first | (simp; done) | (simp; omega))))
                          · have hnx2 : (s.nxt == 1073741824) = false := by simp; omega
                            by_cases hj0 : j < 0
                            · by_cases hf16 : 16 ≤ (s.files.length : Int)
                              · have HR := Lib.hid (show openV s name mode al eof = .error 13 by rw [HRE.out]; simp [openFull, HJ.out, hj0, hf16])
                                go_wp2_with fail
                                refine bodyPost_ret (v := .tuple #[zV, .int .i64 0, .int .i64 13]) (by simp only [results, Try.results55]; go_simp) rfl (RetG.bad HR.out ?_)
                                repeat (first | (with_reducible exact HBr.out) | (with_reducible refine bDrewN (n := 1) ?_) | ((with_reducible refine Below.setCell ?_ ?_ _); rotate_left; focus (first | (simp; done) | (simp; omega))) | ((with_reducible refine Below.alloc ?_ ?_ _); rotate_left; focus (first | (simp; done) | (simp; omega))))
                              · have HOK := Lib.hid (show openV s name mode al eof = .ok (openS s name mode al eof, s.nxt) by rw [HRE.out, show openFull s name = false by unfold openFull; rw [HJ.out, hnx2]; simp; omega]; rfl)
                                have HM2 := Lib.hid (rfl : (0 : Nat) = 0)
                                have HQ := Lib.hid (openF_new (mode := mode) (show idxI s.files (fileP name) < 0 by rw [HJ.out]; exact hj0))
                                go_wp2_with fail
                                refine (clone_own _ s _ (HS.out.next HBr.out)).mono ?_
                                rintro e wq ⟨⟨v0, v1, rfl, o0, o1⟩, hbq⟩
                                obtain ⟨D0, e0, rfl, -⟩ := own_form o0
                                obtain ⟨D1, e1, rfl, -⟩ := own_form o1
                                have HBq := Lib.hid (bNext HBr.out hbq)
                                have k0q := k0r.next hbq
                                have k1q := k1r.next hbq
                                have hzq := hbq.size
                                have hr0 := Nr.made o0 o1
                                have hbA := bAlloc wq (.cells #[.slice D0 s.files.length e0, .slice D1 s.opn.length e1, .int .i64 s.inp, .int .i64 s.out, .int .i64 s.nxt] 25)
                                obtain ⟨wc, HWc⟩ : ∃ wc, Hid (wc = wq.alloc (.cells #[.slice D0 s.files.length e0, .slice D1 s.opn.length e1, .int .i64 s.inp, .int .i64 s.out, .int .i64 s.nxt] 25)) := ⟨_, rfl⟩
                                obtain ⟨B, hB⟩ : ∃ B, Hid (B = wr.heap.size) := ⟨_, rfl⟩
                                obtain ⟨nb, hnb⟩ : ∃ nb, Hid (nb = wq.heap.size) := ⟨_, rfl⟩
                                rw [← HWc.out] at hr0 hbA
                                have HBc := Lib.hid (bNext HBq.out hbA)
                                have k0c := k0q.next hbA
                                have k1c := k1q.next hbA
                                rw [← hB.out, ← hnb.out] at hr0
                                have hBw : w.heap.size + 1 < B := by rw [hB.out]; exact k1r.lt
                                have hBn : B ≤ nb := by rw [hB.out, hnb.out]; exact hzq
                                have HNR := Lib.hid hr0
                                clear hr0 hbA hbq o0 o1 k0r k1r k0q k1q
                                clear p0 p1 p2 p3 p4 z0 z1 z2 z3 z4 g0 g1 g2 g3 g4 zz hz0
                                obtain ⟨p0, p1, p2, p3, p4⟩ := smBox k0c
                                have z0 := k1c.cell 0
                                have z1 := k1c.cell 1
                                have z2 := k1c.cell 2
                                have z3 := k1c.cell 3
                                have z4 := k1c.cell 4
                                simp at z0 z1 z2 z3 z4
                                have g0 := k1c.frozen 0
                                have g1 := k1c.frozen 1
                                have g2 := k1c.frozen 2
                                have g3 := k1c.frozen 3
                                have g4 := k1c.frozen 4
                                have zz := k1c.lt
                                have hz0 : w.heap.size < wc.heap.size := by omega
                                go_upto_if 119 with fail
                                rw [← HWc.out, ← hnb.out]
                                clear HWc hnb hzq m0 m1 m2 m3 m4 zm
                                obtain ⟨⟨c0', c1', c2', c3', c4'⟩, cf, cz⟩ := Nr.cells HNR.out
                                have cf0 := cf 0
                                have cf1 := cf 1
                                have cf4 := cf 4
                                obtain ⟨D0x, e0x, eD0, hcD0, -, hfD0⟩ := own_files HNR.out.r0 (by omega)
                                injection eD0 with eD0 _ eD0c
                                subst eD0 eD0c
                                have HFD0 := Lib.hid hfD0
                                clear hfD0
                                go_wp2_with fail
                                refine (put_any D0 s.files.length e0 s.files ⟨name, ⟨#[]⟩⟩ _ HFD0.out (by omega)).mono ?_
                                rintro e w5 ⟨⟨v5, rfl, ho5⟩, hb5⟩
                                obtain ⟨D5, e5, rfl, -⟩ := own_form ho5
                                have hn5 := HNR.out.next hb5
                                have hne5 : (Value.slice D5 (s.files.length + 1) e5).ownBlock ≠ some nb := fun h => by have := (ho5.lt nb h).1; omega
                                have hBz : B ≤ wc.heap.size := by omega
                                have HNy := Lib.hid (Nr.setV0 hn5 ho5 (insF_len' _ _) hBz hne5)
                                have HBy := Lib.hid ((bNext HBc.out hb5).setCell (p := ⟨nb, 0, none⟩) (by simp; omega) (.slice D5 (s.files.length + 1) e5))
                                have k0y := (k0c.next hb5).far (p := ⟨nb, 0, none⟩) (by simp; omega) (.slice D5 (s.files.length + 1) e5)
                                have k1y := (k1c.next hb5).far (p := ⟨nb, 0, none⟩) (by simp; omega) (.slice D5 (s.files.length + 1) e5)
                                have hn5c := Nr.cells hn5
                                have d0 := hn5c.1.1
                                have df := hn5c.2.1 0
                                have dz := hn5c.2.2
                                obtain ⟨wy, HWy⟩ : ∃ wy, Hid (wy = w5.setCell ⟨nb, 0, none⟩ (.slice D5 (s.files.length + 1) e5)) := ⟨_, rfl⟩
                                rw [← HWy.out] at HNy HBy k0y k1y
                                clear c0' c1' c2' c3' c4' cf cf0 cf1 cf4 k0c k1c hb5 ho5 hn5 hn5c HNR HFD0
                                go_upto_region 20 with fail
                                rw [← HWy.out]
                                clear HWy d0 df dz
                                obtain ⟨⟨c0', c1', c2', c3', c4'⟩, cf, cz⟩ := Nr.cells HNy.out
                                have cf1 := cf 1
                                clear cf
                                clear p0 p1 p2 p3 p4 z0 z1 z2 z3 z4 g0 g1 g2 g3 g4 zz hz0
                                obtain ⟨p0, p1, p2, p3, p4⟩ := smBox k0y
                                have z0 := k1y.cell 0
                                have z1 := k1y.cell 1
                                have z2 := k1y.cell 2
                                have z3 := k1y.cell 3
                                have z4 := k1y.cell 4
                                simp at z0 z1 z2 z3 z4
                                have g0 := k1y.frozen 0
                                have g1 := k1y.frozen 1
                                have g2 := k1y.frozen 2
                                have g3 := k1y.frozen 3
                                have g4 := k1y.frozen 4
                                have zz := k1y.lt
                                have hz0 : w.heap.size < wy.heap.size := by omega
                                go_wp2_with (at_builtin; refine wpList_append_src rfl (.tmp 134) (.tmp 142) 23 rfl B 52 i1 _ 7 72 Try.underlying23 hi1 hz1 hy1 hb1 rfl (by decide) _ s.opn.length (gCs s.opn) rfl (HNy.out.r1.alloc _) (some ⟨wy.heap.size, 0, none⟩) 1 1 (gCs [openX s name mode al eof]) rfl ⟨by omega, fun e => by cases e⟩ ?a1_1 ?a1_2 (g_one _) ?a1_4 ?a1_5 ?a1_6 ?_)
                                case a1_1 => rfl
                                case a1_2 =>
                                  first
                                    | (intro ad e j' u hj'
                                       injection e with e
                                       subst e
                                       have h := (Blk.new wy 52 #[.int .i64 s.nxt, .string name, .int .i64 mode, .int .i64 0, .string al, .int .i64 eof, .bool false]).cell j'
                                       rw [add_plain, Nat.zero_add]
                                       exact h.trans (by simpa [gCs] using hj'))
                                    | (intro j' u hj'
                                       simpa [gCs] using hj')
                                case a1_4 => unfold maxLen; omega
                                case a1_5 => omega
                                case a1_6 => first | (simp; omega) | omega
                                intro v7 w7 ho7 hg7 hat7
                                rw [← gCs_app] at ho7
                                obtain ⟨D7, e7, rfl, -⟩ := own_form ho7
                                have hbA := bAlloc wy (.cells #[.int .i64 s.nxt, .string name, .int .i64 mode, .int .i64 0, .string al, .int .i64 eof, .bool false] 52)
                                have hny := HNy.out.next hbA
                                have hbx7 := hny.box.grown hg7 hny.n1
                                have hr7 := own_stay (w' := w7) hny.r0 fun g' hg' => hg7.block g' (hny.r0.lt g' hg').2 (fun e => by
                                  obtain ⟨cs1, h1⟩ := own_ty hny.r0 hg'
                                  obtain ⟨cs2, h2⟩ := own_ty hny.r1 e.symm
                                  rw [h1] at h2
                                  injection h2 with h2
                                  injection h2 with _ h2 _
                                  exact absurd h2 (by decide))
                                have hz7 := hg7.size
                                simp at hz7
                                have hn7 : (Value.slice D7 (s.opn.length + 1) e7).ownBlock ≠ some nb := fun h => by
                                  rcases hat7 with h1 | h1
                                  · exact hny.n1 (h1 ▸ h)
                                  · rw [h] at h1; injection h1 with h1; (try simp at h1); omega
                                have HNz := Lib.hid (Nr.setV1 (l := s.opn ++ [openX s name mode al eof]) hbx7 hr7 hny.n0 ho7 (by simp) (Nat.le_refl B) hn7)
                                have hbw7 : Below w.heap.size w w7 := (bNext HBy.out hbA).grown hg7 (by simp; omega) (fun k' hk' => by have := (hny.r1.lt k' hk').1; omega)
                                have HBz := Lib.hid (hbw7.setCell (p := ⟨nb, 1, none⟩) (by simp; omega) (.slice D7 (s.opn.length + 1) e7))
                                have k0z := ((k0y.next hbA).grown hg7 (fun e => by have := (hny.r1.lt _ e).1; omega)).far (p := ⟨nb, 1, none⟩) (by simp; omega) (.slice D7 (s.opn.length + 1) e7)
                                have k1z := ((k1y.next hbA).grown hg7 (fun e => by have := (hny.r1.lt _ e).1; omega)).far (p := ⟨nb, 1, none⟩) (by simp; omega) (.slice D7 (s.opn.length + 1) e7)
                                have y1 := hbx7.cell 1
                                have y1f := hbx7.frozen 1
                                have yz := hbx7.lt
                                simp at y1
                                obtain ⟨wz, HWz⟩ : ∃ wz, Hid (wz = w7.setCell ⟨nb, 1, none⟩ (.slice D7 (s.opn.length + 1) e7)) := ⟨_, rfl⟩
                                rw [← HWz.out] at HNz HBz k0z k1z
                                clear c0' c1' c2' c3' c4' cf1 cz hbA hny hbx7 hr7 hz7 hn7 hbw7 k0y k1y ho7 hg7 hat7 HNy
                                go_upto_region 21 with fail
                                rw [← HWz.out]
                                clear HWz y1 y1f yz
                                obtain ⟨⟨c0', c1', c2', c3', c4'⟩, cf, cz⟩ := Nr.cells HNz.out
                                simp only [] at c4'
                                have cf4 := cf 4
                                clear cf
                                clear p0 p1 p2 p3 p4 z0 z1 z2 z3 z4 g0 g1 g2 g3 g4 zz hz0
                                obtain ⟨p0, p1, p2, p3, p4⟩ := smBox k0z
                                have z0 := k1z.cell 0
                                have z1 := k1z.cell 1
                                have z2 := k1z.cell 2
                                have z3 := k1z.cell 3
                                have z4 := k1z.cell 4
                                simp at z0 z1 z2 z3 z4
                                have g0 := k1z.frozen 0
                                have g1 := k1z.frozen 1
                                have g2 := k1z.frozen 2
                                have g3 := k1z.frozen 3
                                have g4 := k1z.frozen 4
                                have zz := k1z.lt
                                have hz0 : w.heap.size < wz.heap.size := by omega
                                have HNu := Lib.hid (HNz.out.setNxt (s.nxt + 1))
                                have HBu := Lib.hid (HBz.out.setCell (p := ⟨nb, 4, none⟩) (by simp; omega) (.int .i64 (s.nxt + 1)))
                                have k0u := k0z.far (p := ⟨nb, 4, none⟩) (by simp; omega) (.int .i64 (s.nxt + 1))
                                have k1u := k1z.far (p := ⟨nb, 4, none⟩) (by simp; omega) (.int .i64 (s.nxt + 1))
                                obtain ⟨wu, HWu⟩ : ∃ wu, Hid (wu = wz.setCell ⟨nb, 4, none⟩ (.int .i64 (s.nxt + 1))) := ⟨_, rfl⟩
                                rw [← HWu.out] at HNu HBu k0u k1u
                                go_wp2_with fail
                                rw [← HWu.out]
                                clear HWu c0' c1' c2' c3' c4' cf4 cz k0z k1z HNz
                                clear p0 p1 p2 p3 p4 z0 z1 z2 z3 z4 g0 g1 g2 g3 g4 zz hz0
                                obtain ⟨p0, p1, p2, p3, p4⟩ := smBox k0u
                                have z0 := k1u.cell 0
                                have z1 := k1u.cell 1
                                have z2 := k1u.cell 2
                                have z3 := k1u.cell 3
                                have z4 := k1u.cell 4
                                simp at z0 z1 z2 z3 z4
                                have g0 := k1u.frozen 0
                                have g1 := k1u.frozen 1
                                have g2 := k1u.frozen 2
                                have g3 := k1u.frozen 3
                                have g4 := k1u.frozen 4
                                have zz := k1u.lt
                                have hz0 : w.heap.size < wu.heap.size := by omega
                                refine wp_region_N (fun w' => Blk w' nb 25 #[.slice D5 (s.files.length + 1) e5, .slice D7 (s.opn.length + 1) e7, .int .i64 s.inp, .int .i64 s.out, .int .i64 (s.nxt + 1)] ∧ Blk w' w.heap.size 25 #[.slice A0 s.files.length c0, .slice A1 s.opn.length c1, .int .i64 s.inp, .int .i64 s.out, .int .i64 s.nxt]) (fun j => decide (j < 4)) (by kernel_rfl) ?_
                                have hbu := HNu.out.box
                                have hS0 : (fun w' => Blk w' nb 25 #[.slice D5 (s.files.length + 1) e5, .slice D7 (s.opn.length + 1) e7, .int .i64 s.inp, .int .i64 s.out, .int .i64 (s.nxt + 1)] ∧ Blk w' w.heap.size 25 #[.slice A0 s.files.length c0, .slice A1 s.opn.length c1, .int .i64 s.inp, .int .i64 s.out, .int .i64 s.nxt]) wu.drew := ⟨hbu, k0u⟩
                                refine wpAnyN_take (i := 0) (v := ?v1) rfl (by kernel_rfl) (by kernel_rfl) (by kernel_rfl) (by kernel_rfl) (fun _ _ _ h => h) (Or.inl ⟨by rfl, ?hy1⟩) (by assumption) ?_
                                case hy1 => intro w hSw; have y0 := hSw.1.cell 0; have y1 := hSw.1.cell 1; have y2 := hSw.1.cell 2; have y3 := hSw.1.cell 3; have y4 := hSw.1.cell 4; simp at y0 y1 y2 y3 y4; obtain ⟨x0, x1, x2, x3, x4⟩ := smBox hSw.2; go_simp; try with_reducible rfl
                                simp only [Act.put, List.getElem_toArray, List.getElem_cons_zero, List.setIfInBounds_toArray, List.set_cons_zero, List.set_cons_succ]
                                refine wpAnyN_take (i := 1) (v := ?v2) rfl (by kernel_rfl) (by kernel_rfl) (by kernel_rfl) (by kernel_rfl) (fun _ _ _ h => h) (Or.inl ⟨by rfl, ?hy2⟩) (by assumption) ?_
                                case hy2 => intro w hSw; have y0 := hSw.1.cell 0; have y1 := hSw.1.cell 1; have y2 := hSw.1.cell 2; have y3 := hSw.1.cell 3; have y4 := hSw.1.cell 4; simp at y0 y1 y2 y3 y4; obtain ⟨x0, x1, x2, x3, x4⟩ := smBox hSw.2; go_simp; try with_reducible rfl
                                simp only [Act.put, List.getElem_toArray, List.getElem_cons_zero, List.getElem_cons_succ, List.setIfInBounds_toArray, List.set_cons_zero, List.set_cons_succ]
                                refine wpAnyN_take (i := 2) (v := ?v3) rfl (by kernel_rfl) (by kernel_rfl) (by kernel_rfl) (by kernel_rfl) (fun _ _ _ h => h) (Or.inl ⟨by rfl, ?hy3⟩) (by assumption) ?_
                                case hy3 => intro w hSw; have y0 := hSw.1.cell 0; have y1 := hSw.1.cell 1; have y2 := hSw.1.cell 2; have y3 := hSw.1.cell 3; have y4 := hSw.1.cell 4; simp at y0 y1 y2 y3 y4; obtain ⟨x0, x1, x2, x3, x4⟩ := smBox hSw.2; go_simp; try with_reducible rfl
                                simp only [Act.put, List.getElem_toArray, List.getElem_cons_zero, List.getElem_cons_succ, List.setIfInBounds_toArray, List.set_cons_zero, List.set_cons_succ]
                                refine wpAnyN_one (i := 3) (by kernel_rfl) rfl (fun K hK => ?_)
                                simp only [List.getElem_toArray, List.getElem_cons_zero, List.getElem_cons_succ]
                                go_simp
                                refine hK _ _ (fun _ => ⟨by repeat (first | (with_reducible exact hbu) | (with_reducible refine Blk.drew1 ?_) | (with_reducible refine Blk.far ?_ ?_ _); rotate_left; focus (first | (simp; done) | (simp; omega))), by repeat (first | (with_reducible exact k0u) | (with_reducible refine Blk.drew1 ?_) | (with_reducible refine Blk.far ?_ ?_ _); rotate_left; focus (first | (simp; done) | (simp; omega)))⟩) ?_
                                refine wpAnyN_one (i := 4) (by kernel_rfl) rfl (fun K hK => ?_)
                                simp only [List.getElem_toArray, List.getElem_cons_zero, List.getElem_cons_succ]
                                go_simp
                                refine hK _ _ (fun h => absurd h (by decide)) ?_
                                refine wpAnyN_one (i := 5) (by kernel_rfl) rfl (fun K hK => ?_)
                                simp only [List.getElem_toArray, List.getElem_cons_zero, List.getElem_cons_succ]
                                go_simp
                                refine hK _ _ (fun h => absurd h (by decide)) ?_
                                refine wpAnyN_done (by kernel_rfl) ?_ _
                                go_wp2_with fail
                                refine bodyPost_ret (v := .tuple #[.agg #[.slice D5 (s.files.length + 1) e5, .slice D7 (s.opn.length + 1) e7, .int .i64 (({ s with files := (insF s.files ⟨name, ⟨#[]⟩⟩), opn := s.opn ++ [openX s name mode al eof], nxt := s.nxt + 1 } : Sm)).inp, .int .i64 (({ s with files := (insF s.files ⟨name, ⟨#[]⟩⟩), opn := s.opn ++ [openX s name mode al eof], nxt := s.nxt + 1 } : Sm)).out, .int .i64 (({ s with files := (insF s.files ⟨name, ⟨#[]⟩⟩), opn := s.opn ++ [openX s name mode al eof], nxt := s.nxt + 1 } : Sm)).nxt], .int .i64 s.nxt, .int .i64 0]) (by simp only [results, Try.results55]; go_simp) rfl (RetG.good (HOK.out.trans (by unfold openS; rw [HQ.out])) ?_ ?_)
                                · refine (OwnS.stay (Nr.out (HNu.out)) fun b' hb' _ => ?_).base (by omega)
                                  (try rw [heap_drew])
                                  repeat rw [heap_setCell_other _ _ _ _ (by simp; omega)]
                                · repeat (first | (with_reducible exact HBu.out) | (with_reducible refine bDrew1 ?_) | ((with_reducible refine Below.setCell ?_ ?_ _); rotate_left; focus (first | (simp; done) | (simp; omega))) | ((with_reducible refine Below.alloc ?_ ?_ _); rotate_left; focus (first | (simp; done) | (simp; omega))))
                            · have HOK := Lib.hid (show openV s name mode al eof = .ok (openS s name mode al eof, s.nxt) by rw [HRE.out, show openFull s name = false by unfold openFull; rw [HJ.out, hnx2]; simp; omega]; rfl)
                              cases hm2 : mode == 2
                              · have HM2 := Lib.hid (rfl : (0 : Nat) = 0)
                                have HQ := Lib.hid (openF_keep (l := s.files) (name := name) (show ¬ idxI s.files (fileP name) < 0 by rw [HJ.out]; omega) hm2)
                                go_wp2_with fail
                                refine (clone_own _ s _ (HS.out.next HBr.out)).mono ?_
                                rintro e wq ⟨⟨v0, v1, rfl, o0, o1⟩, hbq⟩
                                obtain ⟨D0, e0, rfl, -⟩ := own_form o0
                                obtain ⟨D1, e1, rfl, -⟩ := own_form o1
                                have HBq := Lib.hid (bNext HBr.out hbq)
                                have k0q := k0r.next hbq
                                have k1q := k1r.next hbq
                                have hzq := hbq.size
                                have hr0 := Nr.made o0 o1
                                have hbA := bAlloc wq (.cells #[.slice D0 s.files.length e0, .slice D1 s.opn.length e1, .int .i64 s.inp, .int .i64 s.out, .int .i64 s.nxt] 25)
                                obtain ⟨wc, HWc⟩ : ∃ wc, Hid (wc = wq.alloc (.cells #[.slice D0 s.files.length e0, .slice D1 s.opn.length e1, .int .i64 s.inp, .int .i64 s.out, .int .i64 s.nxt] 25)) := ⟨_, rfl⟩
                                obtain ⟨B, hB⟩ : ∃ B, Hid (B = wr.heap.size) := ⟨_, rfl⟩
                                obtain ⟨nb, hnb⟩ : ∃ nb, Hid (nb = wq.heap.size) := ⟨_, rfl⟩
                                rw [← HWc.out] at hr0 hbA
                                have HBc := Lib.hid (bNext HBq.out hbA)
                                have k0c := k0q.next hbA
                                have k1c := k1q.next hbA
                                rw [← hB.out, ← hnb.out] at hr0
                                have hBw : w.heap.size + 1 < B := by rw [hB.out]; exact k1r.lt
                                have hBn : B ≤ nb := by rw [hB.out, hnb.out]; exact hzq
                                have HNR := Lib.hid hr0
                                clear hr0 hbA hbq o0 o1 k0r k1r k0q k1q
                                clear p0 p1 p2 p3 p4 z0 z1 z2 z3 z4 g0 g1 g2 g3 g4 zz hz0
                                obtain ⟨p0, p1, p2, p3, p4⟩ := smBox k0c
                                have z0 := k1c.cell 0
                                have z1 := k1c.cell 1
                                have z2 := k1c.cell 2
                                have z3 := k1c.cell 3
                                have z4 := k1c.cell 4
                                simp at z0 z1 z2 z3 z4
                                have g0 := k1c.frozen 0
                                have g1 := k1c.frozen 1
                                have g2 := k1c.frozen 2
                                have g3 := k1c.frozen 3
                                have g4 := k1c.frozen 4
                                have zz := k1c.lt
                                have hz0 : w.heap.size < wc.heap.size := by omega
                                go_upto_if 119 with fail
                                rw [← HWc.out, ← hnb.out]
                                clear HWc hnb hzq m0 m1 m2 m3 m4 zm
                                obtain ⟨⟨c0', c1', c2', c3', c4'⟩, cf, cz⟩ := Nr.cells HNR.out
                                have cf0 := cf 0
                                have cf1 := cf 1
                                have cf4 := cf 4
                                have HNy := HNR
                                have HBy := HBc
                                have k0y := k0c
                                have k1y := k1c
                                clear cf HNR HBc
                                go_upto_region 20 with fail
                                obtain ⟨wy, HWy⟩ : ∃ wy, Hid (wy = wc) := ⟨_, rfl⟩
                                rw [← HWy.out] at HNy HBy k0y k1y
                                rw [← HWy.out]
                                clear HWy k0c k1c c0' c1' c2' c3' c4' cf0 cf1 cf4
                                obtain ⟨⟨c0', c1', c2', c3', c4'⟩, cf, cz⟩ := Nr.cells HNy.out
                                have cf1 := cf 1
                                clear cf
                                clear p0 p1 p2 p3 p4 z0 z1 z2 z3 z4 g0 g1 g2 g3 g4 zz hz0
                                obtain ⟨p0, p1, p2, p3, p4⟩ := smBox k0y
                                have z0 := k1y.cell 0
                                have z1 := k1y.cell 1
                                have z2 := k1y.cell 2
                                have z3 := k1y.cell 3
                                have z4 := k1y.cell 4
                                simp at z0 z1 z2 z3 z4
                                have g0 := k1y.frozen 0
                                have g1 := k1y.frozen 1
                                have g2 := k1y.frozen 2
                                have g3 := k1y.frozen 3
                                have g4 := k1y.frozen 4
                                have zz := k1y.lt
                                have hz0 : w.heap.size < wy.heap.size := by omega
                                go_wp2_with (at_builtin; refine wpList_append_src rfl (.tmp 134) (.tmp 142) 23 rfl B 52 i1 _ 7 72 Try.underlying23 hi1 hz1 hy1 hb1 rfl (by decide) _ s.opn.length (gCs s.opn) rfl (HNy.out.r1.alloc _) (some ⟨wy.heap.size, 0, none⟩) 1 1 (gCs [openX s name mode al eof]) rfl ⟨by omega, fun e => by cases e⟩ ?a2_1 ?a2_2 (g_one _) ?a2_4 ?a2_5 ?a2_6 ?_)
                                case a2_1 => rfl
                                case a2_2 =>
                                  first
                                    | (intro ad e j' u hj'
                                       injection e with e
                                       subst e
                                       have h := (Blk.new wy 52 #[.int .i64 s.nxt, .string name, .int .i64 mode, .int .i64 0, .string al, .int .i64 eof, .bool false]).cell j'
                                       rw [add_plain, Nat.zero_add]
                                       exact h.trans (by simpa [gCs] using hj'))
                                    | (intro j' u hj'
                                       simpa [gCs] using hj')
                                case a2_4 => unfold maxLen; omega
                                case a2_5 => omega
                                case a2_6 => first | (simp; omega) | omega
                                intro v7 w7 ho7 hg7 hat7
                                rw [← gCs_app] at ho7
                                obtain ⟨D7, e7, rfl, -⟩ := own_form ho7
                                have hbA := bAlloc wy (.cells #[.int .i64 s.nxt, .string name, .int .i64 mode, .int .i64 0, .string al, .int .i64 eof, .bool false] 52)
                                have hny := HNy.out.next hbA
                                have hbx7 := hny.box.grown hg7 hny.n1
                                have hr7 := own_stay (w' := w7) hny.r0 fun g' hg' => hg7.block g' (hny.r0.lt g' hg').2 (fun e => by
                                  obtain ⟨cs1, h1⟩ := own_ty hny.r0 hg'
                                  obtain ⟨cs2, h2⟩ := own_ty hny.r1 e.symm
                                  rw [h1] at h2
                                  injection h2 with h2
                                  injection h2 with _ h2 _
                                  exact absurd h2 (by decide))
                                have hz7 := hg7.size
                                simp at hz7
                                have hn7 : (Value.slice D7 (s.opn.length + 1) e7).ownBlock ≠ some nb := fun h => by
                                  rcases hat7 with h1 | h1
                                  · exact hny.n1 (h1 ▸ h)
                                  · rw [h] at h1; injection h1 with h1; (try simp at h1); omega
                                have HNz := Lib.hid (Nr.setV1 (l := s.opn ++ [openX s name mode al eof]) hbx7 hr7 hny.n0 ho7 (by simp) (Nat.le_refl B) hn7)
                                have hbw7 : Below w.heap.size w w7 := (bNext HBy.out hbA).grown hg7 (by simp; omega) (fun k' hk' => by have := (hny.r1.lt k' hk').1; omega)
                                have HBz := Lib.hid (hbw7.setCell (p := ⟨nb, 1, none⟩) (by simp; omega) (.slice D7 (s.opn.length + 1) e7))
                                have k0z := ((k0y.next hbA).grown hg7 (fun e => by have := (hny.r1.lt _ e).1; omega)).far (p := ⟨nb, 1, none⟩) (by simp; omega) (.slice D7 (s.opn.length + 1) e7)
                                have k1z := ((k1y.next hbA).grown hg7 (fun e => by have := (hny.r1.lt _ e).1; omega)).far (p := ⟨nb, 1, none⟩) (by simp; omega) (.slice D7 (s.opn.length + 1) e7)
                                have y1 := hbx7.cell 1
                                have y1f := hbx7.frozen 1
                                have yz := hbx7.lt
                                simp at y1
                                obtain ⟨wz, HWz⟩ : ∃ wz, Hid (wz = w7.setCell ⟨nb, 1, none⟩ (.slice D7 (s.opn.length + 1) e7)) := ⟨_, rfl⟩
                                rw [← HWz.out] at HNz HBz k0z k1z
                                clear c0' c1' c2' c3' c4' cf1 cz hbA hny hbx7 hr7 hz7 hn7 hbw7 k0y k1y ho7 hg7 hat7 HNy
                                go_upto_region 21 with fail
                                rw [← HWz.out]
                                clear HWz y1 y1f yz
                                obtain ⟨⟨c0', c1', c2', c3', c4'⟩, cf, cz⟩ := Nr.cells HNz.out
                                simp only [] at c4'
                                have cf4 := cf 4
                                clear cf
                                clear p0 p1 p2 p3 p4 z0 z1 z2 z3 z4 g0 g1 g2 g3 g4 zz hz0
                                obtain ⟨p0, p1, p2, p3, p4⟩ := smBox k0z
                                have z0 := k1z.cell 0
                                have z1 := k1z.cell 1
                                have z2 := k1z.cell 2
                                have z3 := k1z.cell 3
                                have z4 := k1z.cell 4
                                simp at z0 z1 z2 z3 z4
                                have g0 := k1z.frozen 0
                                have g1 := k1z.frozen 1
                                have g2 := k1z.frozen 2
                                have g3 := k1z.frozen 3
                                have g4 := k1z.frozen 4
                                have zz := k1z.lt
                                have hz0 : w.heap.size < wz.heap.size := by omega
                                have HNu := Lib.hid (HNz.out.setNxt (s.nxt + 1))
                                have HBu := Lib.hid (HBz.out.setCell (p := ⟨nb, 4, none⟩) (by simp; omega) (.int .i64 (s.nxt + 1)))
                                have k0u := k0z.far (p := ⟨nb, 4, none⟩) (by simp; omega) (.int .i64 (s.nxt + 1))
                                have k1u := k1z.far (p := ⟨nb, 4, none⟩) (by simp; omega) (.int .i64 (s.nxt + 1))
                                obtain ⟨wu, HWu⟩ : ∃ wu, Hid (wu = wz.setCell ⟨nb, 4, none⟩ (.int .i64 (s.nxt + 1))) := ⟨_, rfl⟩
                                rw [← HWu.out] at HNu HBu k0u k1u
                                go_wp2_with fail
                                rw [← HWu.out]
                                clear HWu c0' c1' c2' c3' c4' cf4 cz k0z k1z HNz
                                clear p0 p1 p2 p3 p4 z0 z1 z2 z3 z4 g0 g1 g2 g3 g4 zz hz0
                                obtain ⟨p0, p1, p2, p3, p4⟩ := smBox k0u
                                have z0 := k1u.cell 0
                                have z1 := k1u.cell 1
                                have z2 := k1u.cell 2
                                have z3 := k1u.cell 3
                                have z4 := k1u.cell 4
                                simp at z0 z1 z2 z3 z4
                                have g0 := k1u.frozen 0
                                have g1 := k1u.frozen 1
                                have g2 := k1u.frozen 2
                                have g3 := k1u.frozen 3
                                have g4 := k1u.frozen 4
                                have zz := k1u.lt
                                have hz0 : w.heap.size < wu.heap.size := by omega
                                refine wp_region_N (fun w' => Blk w' nb 25 #[.slice D0 s.files.length e0, .slice D7 (s.opn.length + 1) e7, .int .i64 s.inp, .int .i64 s.out, .int .i64 (s.nxt + 1)] ∧ Blk w' w.heap.size 25 #[.slice A0 s.files.length c0, .slice A1 s.opn.length c1, .int .i64 s.inp, .int .i64 s.out, .int .i64 s.nxt]) (fun j => decide (j < 4)) (by kernel_rfl) ?_
                                have hbu := HNu.out.box
                                have hS0 : (fun w' => Blk w' nb 25 #[.slice D0 s.files.length e0, .slice D7 (s.opn.length + 1) e7, .int .i64 s.inp, .int .i64 s.out, .int .i64 (s.nxt + 1)] ∧ Blk w' w.heap.size 25 #[.slice A0 s.files.length c0, .slice A1 s.opn.length c1, .int .i64 s.inp, .int .i64 s.out, .int .i64 s.nxt]) wu.drew := ⟨hbu, k0u⟩
                                refine wpAnyN_take (i := 0) (v := ?v4) rfl (by kernel_rfl) (by kernel_rfl) (by kernel_rfl) (by kernel_rfl) (fun _ _ _ h => h) (Or.inl ⟨by rfl, ?hy4⟩) (by assumption) ?_
                                case hy4 => intro w hSw; have y0 := hSw.1.cell 0; have y1 := hSw.1.cell 1; have y2 := hSw.1.cell 2; have y3 := hSw.1.cell 3; have y4 := hSw.1.cell 4; simp at y0 y1 y2 y3 y4; obtain ⟨x0, x1, x2, x3, x4⟩ := smBox hSw.2; go_simp; try with_reducible rfl
                                simp only [Act.put, List.getElem_toArray, List.getElem_cons_zero, List.setIfInBounds_toArray, List.set_cons_zero, List.set_cons_succ]
                                refine wpAnyN_take (i := 1) (v := ?v5) rfl (by kernel_rfl) (by kernel_rfl) (by kernel_rfl) (by kernel_rfl) (fun _ _ _ h => h) (Or.inl ⟨by rfl, ?hy5⟩) (by assumption) ?_
                                case hy5 => intro w hSw; have y0 := hSw.1.cell 0; have y1 := hSw.1.cell 1; have y2 := hSw.1.cell 2; have y3 := hSw.1.cell 3; have y4 := hSw.1.cell 4; simp at y0 y1 y2 y3 y4; obtain ⟨x0, x1, x2, x3, x4⟩ := smBox hSw.2; go_simp; try with_reducible rfl
                                simp only [Act.put, List.getElem_toArray, List.getElem_cons_zero, List.getElem_cons_succ, List.setIfInBounds_toArray, List.set_cons_zero, List.set_cons_succ]
                                refine wpAnyN_take (i := 2) (v := ?v6) rfl (by kernel_rfl) (by kernel_rfl) (by kernel_rfl) (by kernel_rfl) (fun _ _ _ h => h) (Or.inl ⟨by rfl, ?hy6⟩) (by assumption) ?_
                                case hy6 => intro w hSw; have y0 := hSw.1.cell 0; have y1 := hSw.1.cell 1; have y2 := hSw.1.cell 2; have y3 := hSw.1.cell 3; have y4 := hSw.1.cell 4; simp at y0 y1 y2 y3 y4; obtain ⟨x0, x1, x2, x3, x4⟩ := smBox hSw.2; go_simp; try with_reducible rfl
                                simp only [Act.put, List.getElem_toArray, List.getElem_cons_zero, List.getElem_cons_succ, List.setIfInBounds_toArray, List.set_cons_zero, List.set_cons_succ]
                                refine wpAnyN_one (i := 3) (by kernel_rfl) rfl (fun K hK => ?_)
                                simp only [List.getElem_toArray, List.getElem_cons_zero, List.getElem_cons_succ]
                                go_simp
                                refine hK _ _ (fun _ => ⟨by repeat (first | (with_reducible exact hbu) | (with_reducible refine Blk.drew1 ?_) | (with_reducible refine Blk.far ?_ ?_ _); rotate_left; focus (first | (simp; done) | (simp; omega))), by repeat (first | (with_reducible exact k0u) | (with_reducible refine Blk.drew1 ?_) | (with_reducible refine Blk.far ?_ ?_ _); rotate_left; focus (first | (simp; done) | (simp; omega)))⟩) ?_
                                refine wpAnyN_one (i := 4) (by kernel_rfl) rfl (fun K hK => ?_)
                                simp only [List.getElem_toArray, List.getElem_cons_zero, List.getElem_cons_succ]
                                go_simp
                                refine hK _ _ (fun h => absurd h (by decide)) ?_
                                refine wpAnyN_one (i := 5) (by kernel_rfl) rfl (fun K hK => ?_)
                                simp only [List.getElem_toArray, List.getElem_cons_zero, List.getElem_cons_succ]
                                go_simp
                                refine hK _ _ (fun h => absurd h (by decide)) ?_
                                refine wpAnyN_done (by kernel_rfl) ?_ _
                                go_wp2_with fail
                                refine bodyPost_ret (v := .tuple #[.agg #[.slice D0 s.files.length e0, .slice D7 (s.opn.length + 1) e7, .int .i64 (({ s with files := s.files, opn := s.opn ++ [openX s name mode al eof], nxt := s.nxt + 1 } : Sm)).inp, .int .i64 (({ s with files := s.files, opn := s.opn ++ [openX s name mode al eof], nxt := s.nxt + 1 } : Sm)).out, .int .i64 (({ s with files := s.files, opn := s.opn ++ [openX s name mode al eof], nxt := s.nxt + 1 } : Sm)).nxt], .int .i64 s.nxt, .int .i64 0]) (by simp only [results, Try.results55]; go_simp) rfl (RetG.good (HOK.out.trans (by unfold openS; rw [HQ.out])) ?_ ?_)
                                · refine (OwnS.stay (Nr.out (HNu.out)) fun b' hb' _ => ?_).base (by omega)
                                  (try rw [heap_drew])
                                  repeat rw [heap_setCell_other _ _ _ _ (by simp; omega)]
                                · repeat (first | (with_reducible exact HBu.out) | (with_reducible refine bDrew1 ?_) | ((with_reducible refine Below.setCell ?_ ?_ _); rotate_left; focus (first | (simp; done) | (simp; omega))) | ((with_reducible refine Below.alloc ?_ ?_ _); rotate_left; focus (first | (simp; done) | (simp; omega))))
                              · have HM2 := Lib.hid (rfl : (0 : Nat) = 0)
                                obtain ⟨k, f, hkx, hkl, hfk⟩ : ∃ (k : Nat) (f : F), idxI s.files (fileP name) = k ∧ k < s.files.length ∧ s.files[k]? = some f := by
                                  rcases idxI_cases s.files (fileP name) with ⟨h, -⟩ | ⟨k, f, h, hkl, hf, -⟩
                                  · have := HJ.out; omega
                                  · exact ⟨k, f, h, hkl, hf⟩
                                have HQ := Lib.hid (openF_write hkx hfk hm2)
                                have HFK := Lib.hid hfk
                                obtain rfl : j = (k : Int) := by rw [← HJ.out]; exact hkx
                                have hkli : (k : Int) < (s.files.length : Int) := by omega
                                clear hkx hfk
                                go_wp2_with fail
                                refine (clone_own _ s _ (HS.out.next HBr.out)).mono ?_
                                rintro e wq ⟨⟨v0, v1, rfl, o0, o1⟩, hbq⟩
                                obtain ⟨D0, e0, rfl, -⟩ := own_form o0
                                obtain ⟨D1, e1, rfl, -⟩ := own_form o1
                                have HBq := Lib.hid (bNext HBr.out hbq)
                                have k0q := k0r.next hbq
                                have k1q := k1r.next hbq
                                have hzq := hbq.size
                                have hr0 := Nr.made o0 o1
                                have hbA := bAlloc wq (.cells #[.slice D0 s.files.length e0, .slice D1 s.opn.length e1, .int .i64 s.inp, .int .i64 s.out, .int .i64 s.nxt] 25)
                                obtain ⟨wc, HWc⟩ : ∃ wc, Hid (wc = wq.alloc (.cells #[.slice D0 s.files.length e0, .slice D1 s.opn.length e1, .int .i64 s.inp, .int .i64 s.out, .int .i64 s.nxt] 25)) := ⟨_, rfl⟩
                                obtain ⟨B, hB⟩ : ∃ B, Hid (B = wr.heap.size) := ⟨_, rfl⟩
                                obtain ⟨nb, hnb⟩ : ∃ nb, Hid (nb = wq.heap.size) := ⟨_, rfl⟩
                                rw [← HWc.out] at hr0 hbA
                                have HBc := Lib.hid (bNext HBq.out hbA)
                                have k0c := k0q.next hbA
                                have k1c := k1q.next hbA
                                rw [← hB.out, ← hnb.out] at hr0
                                have hBw : w.heap.size + 1 < B := by rw [hB.out]; exact k1r.lt
                                have hBn : B ≤ nb := by rw [hB.out, hnb.out]; exact hzq
                                have HNR := Lib.hid hr0
                                clear hr0 hbA hbq o0 o1 k0r k1r k0q k1q
                                clear p0 p1 p2 p3 p4 z0 z1 z2 z3 z4 g0 g1 g2 g3 g4 zz hz0
                                obtain ⟨p0, p1, p2, p3, p4⟩ := smBox k0c
                                have z0 := k1c.cell 0
                                have z1 := k1c.cell 1
                                have z2 := k1c.cell 2
                                have z3 := k1c.cell 3
                                have z4 := k1c.cell 4
                                simp at z0 z1 z2 z3 z4
                                have g0 := k1c.frozen 0
                                have g1 := k1c.frozen 1
                                have g2 := k1c.frozen 2
                                have g3 := k1c.frozen 3
                                have g4 := k1c.frozen 4
                                have zz := k1c.lt
                                have hz0 : w.heap.size < wc.heap.size := by omega
                                go_upto_if 119 with fail
                                rw [← HWc.out, ← hnb.out]
                                clear HWc hnb hzq m0 m1 m2 m3 m4 zm
                                obtain ⟨⟨c0', c1', c2', c3', c4'⟩, cf, cz⟩ := Nr.cells HNR.out
                                have cf0 := cf 0
                                have cf1 := cf 1
                                have cf4 := cf 4
                                obtain ⟨g, cap, hD0, hBg, hgz, hgn, hg1, hfr, hfc⟩ := Nr.filesG HNR.out (by omega)
                                injection hD0 with hD0 _ hD0c
                                subst hD0 hD0c
                                obtain ⟨fa0, fa1⟩ := hfc k f HFK.out
                                have f1 := hfr (k * 2 + 1)
                                have HNy := Lib.hid (Nr.setF HNR.out hg1 (k * 2 + 1) (.string ⟨#[]⟩) (s.files.set k { f with text := ⟨#[]⟩ }) (fCs_set HFK.out _) (by simp))
                                have HBy := Lib.hid (HBc.out.setCell (p := ⟨g, k * 2 + 1, none⟩) (by simp; omega) (.string ⟨#[]⟩))
                                have k0y := k0c.far (p := ⟨g, k * 2 + 1, none⟩) (by simp; omega) (.string ⟨#[]⟩)
                                have k1y := k1c.far (p := ⟨g, k * 2 + 1, none⟩) (by simp; omega) (.string ⟨#[]⟩)
                                obtain ⟨wy, HWy⟩ : ∃ wy, Hid (wy = wc.setCell ⟨g, k * 2 + 1, none⟩ (.string ⟨#[]⟩)) := ⟨_, rfl⟩
                                rw [← HWy.out] at HNy HBy k0y k1y
                                clear hfc hfr hg1 cf HNR k0c k1c
                                go_upto_region 20 with fail
                                rw [← HWy.out]
                                clear HWy fa0 fa1 f1 c0' c1' c2' c3' c4' cf0 cf1 cf4
                                obtain ⟨⟨c0', c1', c2', c3', c4'⟩, cf, cz⟩ := Nr.cells HNy.out
                                have cf1 := cf 1
                                clear cf
                                clear p0 p1 p2 p3 p4 z0 z1 z2 z3 z4 g0 g1 g2 g3 g4 zz hz0
                                obtain ⟨p0, p1, p2, p3, p4⟩ := smBox k0y
                                have z0 := k1y.cell 0
                                have z1 := k1y.cell 1
                                have z2 := k1y.cell 2
                                have z3 := k1y.cell 3
                                have z4 := k1y.cell 4
                                simp at z0 z1 z2 z3 z4
                                have g0 := k1y.frozen 0
                                have g1 := k1y.frozen 1
                                have g2 := k1y.frozen 2
                                have g3 := k1y.frozen 3
                                have g4 := k1y.frozen 4
                                have zz := k1y.lt
                                have hz0 : w.heap.size < wy.heap.size := by omega
                                go_wp2_with (at_builtin; refine wpList_append_src rfl (.tmp 134) (.tmp 142) 23 rfl B 52 i1 _ 7 72 Try.underlying23 hi1 hz1 hy1 hb1 rfl (by decide) _ s.opn.length (gCs s.opn) rfl (HNy.out.r1.alloc _) (some ⟨wy.heap.size, 0, none⟩) 1 1 (gCs [openX s name mode al eof]) rfl ⟨by omega, fun e => by cases e⟩ ?a3_1 ?a3_2 (g_one _) ?a3_4 ?a3_5 ?a3_6 ?_)
                                case a3_1 => rfl
                                case a3_2 =>
                                  first
                                    | (intro ad e j' u hj'
                                       injection e with e
                                       subst e
                                       have h := (Blk.new wy 52 #[.int .i64 s.nxt, .string name, .int .i64 mode, .int .i64 0, .string al, .int .i64 eof, .bool false]).cell j'
                                       rw [add_plain, Nat.zero_add]
                                       exact h.trans (by simpa [gCs] using hj'))
                                    | (intro j' u hj'
                                       simpa [gCs] using hj')
                                case a3_4 => unfold maxLen; omega
                                case a3_5 => omega
                                case a3_6 => first | (simp; omega) | omega
                                intro v7 w7 ho7 hg7 hat7
                                rw [← gCs_app] at ho7
                                obtain ⟨D7, e7, rfl, -⟩ := own_form ho7
                                have hbA := bAlloc wy (.cells #[.int .i64 s.nxt, .string name, .int .i64 mode, .int .i64 0, .string al, .int .i64 eof, .bool false] 52)
                                have hny := HNy.out.next hbA
                                have hbx7 := hny.box.grown hg7 hny.n1
                                have hr7 := own_stay (w' := w7) hny.r0 fun g' hg' => hg7.block g' (hny.r0.lt g' hg').2 (fun e => by
                                  obtain ⟨cs1, h1⟩ := own_ty hny.r0 hg'
                                  obtain ⟨cs2, h2⟩ := own_ty hny.r1 e.symm
                                  rw [h1] at h2
                                  injection h2 with h2
                                  injection h2 with _ h2 _
                                  exact absurd h2 (by decide))
                                have hz7 := hg7.size
                                simp at hz7
                                have hn7 : (Value.slice D7 (s.opn.length + 1) e7).ownBlock ≠ some nb := fun h => by
                                  rcases hat7 with h1 | h1
                                  · exact hny.n1 (h1 ▸ h)
                                  · rw [h] at h1; injection h1 with h1; (try simp at h1); omega
                                have HNz := Lib.hid (Nr.setV1 (l := s.opn ++ [openX s name mode al eof]) hbx7 hr7 hny.n0 ho7 (by simp) (Nat.le_refl B) hn7)
                                have hbw7 : Below w.heap.size w w7 := (bNext HBy.out hbA).grown hg7 (by simp; omega) (fun k' hk' => by have := (hny.r1.lt k' hk').1; omega)
                                have HBz := Lib.hid (hbw7.setCell (p := ⟨nb, 1, none⟩) (by simp; omega) (.slice D7 (s.opn.length + 1) e7))
                                have k0z := ((k0y.next hbA).grown hg7 (fun e => by have := (hny.r1.lt _ e).1; omega)).far (p := ⟨nb, 1, none⟩) (by simp; omega) (.slice D7 (s.opn.length + 1) e7)
                                have k1z := ((k1y.next hbA).grown hg7 (fun e => by have := (hny.r1.lt _ e).1; omega)).far (p := ⟨nb, 1, none⟩) (by simp; omega) (.slice D7 (s.opn.length + 1) e7)
                                have y1 := hbx7.cell 1
                                have y1f := hbx7.frozen 1
                                have yz := hbx7.lt
                                simp at y1
                                obtain ⟨wz, HWz⟩ : ∃ wz, Hid (wz = w7.setCell ⟨nb, 1, none⟩ (.slice D7 (s.opn.length + 1) e7)) := ⟨_, rfl⟩
                                rw [← HWz.out] at HNz HBz k0z k1z
                                clear c0' c1' c2' c3' c4' cf1 cz hbA hny hbx7 hr7 hz7 hn7 hbw7 k0y k1y ho7 hg7 hat7 HNy
                                go_upto_region 21 with fail
                                rw [← HWz.out]
                                clear HWz y1 y1f yz
                                obtain ⟨⟨c0', c1', c2', c3', c4'⟩, cf, cz⟩ := Nr.cells HNz.out
                                simp only [] at c4'
                                have cf4 := cf 4
                                clear cf
                                clear p0 p1 p2 p3 p4 z0 z1 z2 z3 z4 g0 g1 g2 g3 g4 zz hz0
                                obtain ⟨p0, p1, p2, p3, p4⟩ := smBox k0z
                                have z0 := k1z.cell 0
                                have z1 := k1z.cell 1
                                have z2 := k1z.cell 2
                                have z3 := k1z.cell 3
                                have z4 := k1z.cell 4
                                simp at z0 z1 z2 z3 z4
                                have g0 := k1z.frozen 0
                                have g1 := k1z.frozen 1
                                have g2 := k1z.frozen 2
                                have g3 := k1z.frozen 3
                                have g4 := k1z.frozen 4
                                have zz := k1z.lt
                                have hz0 : w.heap.size < wz.heap.size := by omega
                                have HNu := Lib.hid (HNz.out.setNxt (s.nxt + 1))
                                have HBu := Lib.hid (HBz.out.setCell (p := ⟨nb, 4, none⟩) (by simp; omega) (.int .i64 (s.nxt + 1)))
                                have k0u := k0z.far (p := ⟨nb, 4, none⟩) (by simp; omega) (.int .i64 (s.nxt + 1))
                                have k1u := k1z.far (p := ⟨nb, 4, none⟩) (by simp; omega) (.int .i64 (s.nxt + 1))
                                obtain ⟨wu, HWu⟩ : ∃ wu, Hid (wu = wz.setCell ⟨nb, 4, none⟩ (.int .i64 (s.nxt + 1))) := ⟨_, rfl⟩
                                rw [← HWu.out] at HNu HBu k0u k1u
                                go_wp2_with fail
                                rw [← HWu.out]
                                clear HWu c0' c1' c2' c3' c4' cf4 cz k0z k1z HNz
                                clear p0 p1 p2 p3 p4 z0 z1 z2 z3 z4 g0 g1 g2 g3 g4 zz hz0
                                obtain ⟨p0, p1, p2, p3, p4⟩ := smBox k0u
                                have z0 := k1u.cell 0
                                have z1 := k1u.cell 1
                                have z2 := k1u.cell 2
                                have z3 := k1u.cell 3
                                have z4 := k1u.cell 4
                                simp at z0 z1 z2 z3 z4
                                have g0 := k1u.frozen 0
                                have g1 := k1u.frozen 1
                                have g2 := k1u.frozen 2
                                have g3 := k1u.frozen 3
                                have g4 := k1u.frozen 4
                                have zz := k1u.lt
                                have hz0 : w.heap.size < wu.heap.size := by omega
                                refine wp_region_N (fun w' => Blk w' nb 25 #[.slice (some ⟨g, 0, none⟩) s.files.length e0, .slice D7 (s.opn.length + 1) e7, .int .i64 s.inp, .int .i64 s.out, .int .i64 (s.nxt + 1)] ∧ Blk w' w.heap.size 25 #[.slice A0 s.files.length c0, .slice A1 s.opn.length c1, .int .i64 s.inp, .int .i64 s.out, .int .i64 s.nxt]) (fun j => decide (j < 4)) (by kernel_rfl) ?_
                                have hbu := HNu.out.box
                                have hS0 : (fun w' => Blk w' nb 25 #[.slice (some ⟨g, 0, none⟩) s.files.length e0, .slice D7 (s.opn.length + 1) e7, .int .i64 s.inp, .int .i64 s.out, .int .i64 (s.nxt + 1)] ∧ Blk w' w.heap.size 25 #[.slice A0 s.files.length c0, .slice A1 s.opn.length c1, .int .i64 s.inp, .int .i64 s.out, .int .i64 s.nxt]) wu.drew := ⟨hbu, k0u⟩
                                refine wpAnyN_take (i := 0) (v := ?v7) rfl (by kernel_rfl) (by kernel_rfl) (by kernel_rfl) (by kernel_rfl) (fun _ _ _ h => h) (Or.inl ⟨by rfl, ?hy7⟩) (by assumption) ?_
                                case hy7 => intro w hSw; have y0 := hSw.1.cell 0; have y1 := hSw.1.cell 1; have y2 := hSw.1.cell 2; have y3 := hSw.1.cell 3; have y4 := hSw.1.cell 4; simp at y0 y1 y2 y3 y4; obtain ⟨x0, x1, x2, x3, x4⟩ := smBox hSw.2; go_simp; try with_reducible rfl
                                simp only [Act.put, List.getElem_toArray, List.getElem_cons_zero, List.setIfInBounds_toArray, List.set_cons_zero, List.set_cons_succ]
                                refine wpAnyN_take (i := 1) (v := ?v8) rfl (by kernel_rfl) (by kernel_rfl) (by kernel_rfl) (by kernel_rfl) (fun _ _ _ h => h) (Or.inl ⟨by rfl, ?hy8⟩) (by assumption) ?_
                                case hy8 => intro w hSw; have y0 := hSw.1.cell 0; have y1 := hSw.1.cell 1; have y2 := hSw.1.cell 2; have y3 := hSw.1.cell 3; have y4 := hSw.1.cell 4; simp at y0 y1 y2 y3 y4; obtain ⟨x0, x1, x2, x3, x4⟩ := smBox hSw.2; go_simp; try with_reducible rfl
                                simp only [Act.put, List.getElem_toArray, List.getElem_cons_zero, List.getElem_cons_succ, List.setIfInBounds_toArray, List.set_cons_zero, List.set_cons_succ]
                                refine wpAnyN_take (i := 2) (v := ?v9) rfl (by kernel_rfl) (by kernel_rfl) (by kernel_rfl) (by kernel_rfl) (fun _ _ _ h => h) (Or.inl ⟨by rfl, ?hy9⟩) (by assumption) ?_
                                case hy9 => intro w hSw; have y0 := hSw.1.cell 0; have y1 := hSw.1.cell 1; have y2 := hSw.1.cell 2; have y3 := hSw.1.cell 3; have y4 := hSw.1.cell 4; simp at y0 y1 y2 y3 y4; obtain ⟨x0, x1, x2, x3, x4⟩ := smBox hSw.2; go_simp; try with_reducible rfl
                                simp only [Act.put, List.getElem_toArray, List.getElem_cons_zero, List.getElem_cons_succ, List.setIfInBounds_toArray, List.set_cons_zero, List.set_cons_succ]
                                refine wpAnyN_one (i := 3) (by kernel_rfl) rfl (fun K hK => ?_)
                                simp only [List.getElem_toArray, List.getElem_cons_zero, List.getElem_cons_succ]
                                go_simp
                                refine hK _ _ (fun _ => ⟨by repeat (first | (with_reducible exact hbu) | (with_reducible refine Blk.drew1 ?_) | (with_reducible refine Blk.far ?_ ?_ _); rotate_left; focus (first | (simp; done) | (simp; omega))), by repeat (first | (with_reducible exact k0u) | (with_reducible refine Blk.drew1 ?_) | (with_reducible refine Blk.far ?_ ?_ _); rotate_left; focus (first | (simp; done) | (simp; omega)))⟩) ?_
                                refine wpAnyN_one (i := 4) (by kernel_rfl) rfl (fun K hK => ?_)
                                simp only [List.getElem_toArray, List.getElem_cons_zero, List.getElem_cons_succ]
                                go_simp
                                refine hK _ _ (fun h => absurd h (by decide)) ?_
                                refine wpAnyN_one (i := 5) (by kernel_rfl) rfl (fun K hK => ?_)
                                simp only [List.getElem_toArray, List.getElem_cons_zero, List.getElem_cons_succ]
                                go_simp
                                refine hK _ _ (fun h => absurd h (by decide)) ?_
                                refine wpAnyN_done (by kernel_rfl) ?_ _
                                go_wp2_with fail
                                refine bodyPost_ret (v := .tuple #[.agg #[.slice (some ⟨g, 0, none⟩) s.files.length e0, .slice D7 (s.opn.length + 1) e7, .int .i64 (({ s with files := (s.files.set k { f with text := ⟨#[]⟩ }), opn := s.opn ++ [openX s name mode al eof], nxt := s.nxt + 1 } : Sm)).inp, .int .i64 (({ s with files := (s.files.set k { f with text := ⟨#[]⟩ }), opn := s.opn ++ [openX s name mode al eof], nxt := s.nxt + 1 } : Sm)).out, .int .i64 (({ s with files := (s.files.set k { f with text := ⟨#[]⟩ }), opn := s.opn ++ [openX s name mode al eof], nxt := s.nxt + 1 } : Sm)).nxt], .int .i64 s.nxt, .int .i64 0]) (by simp only [results, Try.results55]; go_simp) rfl (RetG.good (HOK.out.trans (by unfold openS; rw [HQ.out])) ?_ ?_)
                                · refine (OwnS.stay (Nr.out (HNu.out)) fun b' hb' _ => ?_).base (by omega)
                                  (try rw [heap_drew])
                                  repeat rw [heap_setCell_other _ _ _ _ (by simp; omega)]
                                · repeat (first | (with_reducible exact HBu.out) | (with_reducible refine bDrew1 ?_) | ((with_reducible refine Below.setCell ?_ ?_ _); rotate_left; focus (first | (simp; done) | (simp; omega))) | ((with_reducible refine Below.alloc ?_ ?_ _); rotate_left; focus (first | (simp; done) | (simp; omega))))
                  · have HMM := Lib.hid hmm
                    go_wp2_with fail
                    go_loopw [15] (fun i wr => ∃ k : Nat, k ≤ s.opn.length ∧ i = .int .i64 k ∧ Hid (∀ (q : Nat) z, q < k → s.opn[q]? = some z → apP (openX s name mode al eof) z = false) ∧ Hid (Below w.heap.size w wr) ∧ Hid (Blk wr w.heap.size 25 #[.slice A0 s.files.length c0, .slice A1 s.opn.length c1, .int .i64 s.inp, .int .i64 s.out, .int .i64 s.nxt]) ∧ Hid (Blk wr (w.heap.size + 1) 25 #[.slice none 0 0, .slice none 0 0, .int .i64 0, .int .i64 0, .int .i64 0]) ∧ Hid (Blk wr (w.heap.size + 1 + 1) 25 #[.slice none 0 0, .slice none 0 0, .int .i64 0, .int .i64 0, .int .i64 0])) (fun i _ => s.opn.length - (intOf i).toNat)
                    case atStart => exact ⟨0, by omega, rfl, Lib.hid fun q z h => absurd h (by omega), HB1.out, k01, k11, k21⟩
                    case round =>
                      obtain ⟨k, hk, rfl, HP, HBr, K0, K1, K2⟩ := hrel
                      have k0r := K0.out
                      have k1r := K1.out
                      have k2r := K2.out
                      clear p0 p1 p2 p3 p4 z0 z1 z2 z3 z4 g0 g1 g2 g3 g4 zz hz0 m0 m1 m2 m3 m4 zm
                      obtain ⟨p0, p1, p2, p3, p4⟩ := smBox k0r
                      have z0 := k1r.cell 0
                      have z1 := k1r.cell 1
                      have z2 := k1r.cell 2
                      have z3 := k1r.cell 3
                      have z4 := k1r.cell 4
                      simp at z0 z1 z2 z3 z4
                      have g0 := k1r.frozen 0
                      have g1 := k1r.frozen 1
                      have g2 := k1r.frozen 2
                      have g3 := k1r.frozen 3
                      have g4 := k1r.frozen 4
                      have m0 := k2r.cell 0
                      have m1 := k2r.cell 1
                      have m2 := k2r.cell 2
                      have m3 := k2r.cell 3
                      have m4 := k2r.cell 4
                      simp at m0 m1 m2 m3 m4
                      have zz := k1r.lt
                      have zm := k2r.lt
                      have hz0 : w.heap.size < wr.heap.size := by omega
                      by_cases hlt : k < s.opn.length
                      · obtain ⟨b, off, y, rfl, hb, hy, hy4⟩ := HO.out.at hlt
                        obtain ⟨q0, q1, q2, q3, q4, q5, q6⟩ := hy4.below hb HBr.out
                        have HY := Lib.hid hy
                        have hkli : (k : Int) < (s.opn.length : Int) := by omega
                        have HBn := Lib.hid (HBr.out.alloc (by omega) (.cells #[.int .i64 y.id, .string y.file, .int .i64 y.mode, .int .i64 y.pos, .string y.alias_, .int .i64 y.eof, .bool y.past] 52))
                        have K0n := Lib.hid (k0r.alloc (.cells #[.int .i64 y.id, .string y.file, .int .i64 y.mode, .int .i64 y.pos, .string y.alias_, .int .i64 y.eof, .bool y.past] 52))
                        have K1n := Lib.hid (k1r.alloc (.cells #[.int .i64 y.id, .string y.file, .int .i64 y.mode, .int .i64 y.pos, .string y.alias_, .int .i64 y.eof, .bool y.past] 52))
                        have K2n := Lib.hid (k2r.alloc (.cells #[.int .i64 y.id, .string y.file, .int .i64 y.mode, .int .i64 y.pos, .string y.alias_, .int .i64 y.eof, .bool y.past] 52))
                        clear hy hy4 k0r k1r k2r
                        have hret : Hid (apP (openX s name mode al eof) y = true → openV s name mode al eof = .error 5) := fun h => by
                          rw [HRF.out, idxI_yes HY.out h HP.out, if_pos (by omega)]
                        have hnxt : Hid (apP (openX s name mode al eof) y = false → ∀ (q : Nat) z, q < k + 1 → s.opn[q]? = some z → apP (openX s name mode al eof) z = false) := fun h q z hq hz => by
                          rcases Nat.lt_or_ge q k with h1 | h1
                          · exact HP.out q z h1 hz
                          · rw [show q = k by omega, HY.out] at hz
                            injection hz with hz
                            rw [← hz]; exact h
                        have hmn : (mode != 1) = false := by simp [bne, hmm]
                        cases hmy : (y.mode != 1)
                        all_goals go_wp2_with fail
                        all_goals first
                          | exact ⟨⟨k + 1, by omega, by go_num, hnxt.out (by rw [ap_eq]; first | (simp [*]; done) | (simp_all; done)), HBn.out, K0n.out, K1n.out, K2n.out⟩, by simp [intOf]; omega⟩
                          | (have HR := Lib.hid (hret.out (by rw [ap_eq]; first | (simp [*]; done) | (simp_all; done)))
                             refine bodyPost_ret (v := .tuple #[zV, .int .i64 0, .int .i64 5]) (by simp only [results, Try.results55]; go_simp) rfl (RetG.bad HR.out ?_)
                             repeat (first | (with_reducible exact HBr.out) | (with_reducible refine bDrewN (n := 1) ?_) | ((with_reducible refine Below.setCell ?_ ?_ _); rotate_left; focus (first | (simp; done) | (simp; omega))) | ((with_reducible refine Below.alloc ?_ ?_ _); rotate_left; focus (first | (simp; done) | (simp; omega)))))
                      · have HRE := Lib.hid (show openV s name mode al eof = if openFull s name then .error 13 else .ok (openS s name mode al eof, s.nxt) by
                          rw [HRF.out, idxI_no (l := s.opn) (p := apP (openX s name mode al eof)) (fun q z hz => HP.out q z (by have := (List.getElem?_eq_some_iff.1 hz).1; omega) hz), if_neg (by omega)])
                        obtain rfl : k = s.opn.length := by omega
                        clear hk hlt HP
                        by_cases h16 : 16 ≤ (s.opn.length : Int)
                        · have HR := Lib.hid (show openV s name mode al eof = .error 13 by rw [HRE.out]; simp [openFull, h16])
                          go_wp2_with fail
                          refine bodyPost_ret (v := .tuple #[zV, .int .i64 0, .int .i64 13]) (by simp only [results, Try.results55]; go_simp) rfl (RetG.bad HR.out ?_)
                          repeat (first | (with_reducible exact HBr.out) | (with_reducible refine bDrewN (n := 1) ?_) | ((with_reducible refine Below.setCell ?_ ?_ _); rotate_left; focus (first | (simp; done) | (simp; omega))) | ((with_reducible refine Below.alloc ?_ ?_ _); rotate_left; focus (first | (simp; done) | (simp; omega))))
                        · by_cases hnx : 1073741824 ≤ s.nxt
                          · have HR := Lib.hid (show openV s name mode al eof = .error 13 by rw [HRE.out]; simp [openFull, show s.nxt = 1073741824 by omega])
                            go_wp2_with fail
                            refine bodyPost_ret (v := .tuple #[zV, .int .i64 0, .int .i64 13]) (by simp only [results, Try.results55]; go_simp) rfl (RetG.bad HR.out ?_)
                            repeat (first | (with_reducible exact HBr.out) | (with_reducible refine bDrewN (n := 1) ?_) | ((with_reducible refine Below.setCell ?_ ?_ _); rotate_left; focus (first | (simp; done) | (simp; omega))) | ((with_reducible refine Below.alloc ?_ ?_ _); rotate_left; focus (first | (simp; done) | (simp; omega))))
                          · have hnx2 : (s.nxt == 1073741824) = false := by simp; omega
                            have HOK := Lib.hid (show openV s name mode al eof = .ok (openS s name mode al eof, s.nxt) by rw [HRE.out, show openFull s name = false by unfold openFull; rw [HJ.out, hnx2]; simp; omega]; rfl)
                            have hm2 : (mode == 2) = false := by rw [show mode = 1 by simpa using hmm]; rfl
                            have HM2 := Lib.hid (rfl : (0 : Nat) = 0)
                            have HQ := Lib.hid (openF_keep (l := s.files) (name := name) (show ¬ idxI s.files (fileP name) < 0 by rw [HJ.out]; omega) hm2)
                            go_wp2_with fail
                            refine (clone_own _ s _ (HS.out.next HBr.out)).mono ?_
                            rintro e wq ⟨⟨v0, v1, rfl, o0, o1⟩, hbq⟩
                            obtain ⟨D0, e0, rfl, -⟩ := own_form o0
                            obtain ⟨D1, e1, rfl, -⟩ := own_form o1
                            have HBq := Lib.hid (bNext HBr.out hbq)
                            have k0q := k0r.next hbq
                            have k1q := k1r.next hbq
                            have hzq := hbq.size
                            have hr0 := Nr.made o0 o1
                            have hbA := bAlloc wq (.cells #[.slice D0 s.files.length e0, .slice D1 s.opn.length e1, .int .i64 s.inp, .int .i64 s.out, .int .i64 s.nxt] 25)
                            obtain ⟨wc, HWc⟩ : ∃ wc, Hid (wc = wq.alloc (.cells #[.slice D0 s.files.length e0, .slice D1 s.opn.length e1, .int .i64 s.inp, .int .i64 s.out, .int .i64 s.nxt] 25)) := ⟨_, rfl⟩
                            obtain ⟨B, hB⟩ : ∃ B, Hid (B = wr.heap.size) := ⟨_, rfl⟩
                            obtain ⟨nb, hnb⟩ : ∃ nb, Hid (nb = wq.heap.size) := ⟨_, rfl⟩
                            rw [← HWc.out] at hr0 hbA
                            have HBc := Lib.hid (bNext HBq.out hbA)
                            have k0c := k0q.next hbA
                            have k1c := k1q.next hbA
                            rw [← hB.out, ← hnb.out] at hr0
                            have hBw : w.heap.size + 1 < B := by rw [hB.out]; exact k1r.lt
                            have hBn : B ≤ nb := by rw [hB.out, hnb.out]; exact hzq
                            have HNR := Lib.hid hr0
                            clear hr0 hbA hbq o0 o1 k0r k1r k0q k1q
                            clear p0 p1 p2 p3 p4 z0 z1 z2 z3 z4 g0 g1 g2 g3 g4 zz hz0
                            obtain ⟨p0, p1, p2, p3, p4⟩ := smBox k0c
                            have z0 := k1c.cell 0
                            have z1 := k1c.cell 1
                            have z2 := k1c.cell 2
                            have z3 := k1c.cell 3
                            have z4 := k1c.cell 4
                            simp at z0 z1 z2 z3 z4
                            have g0 := k1c.frozen 0
                            have g1 := k1c.frozen 1
                            have g2 := k1c.frozen 2
                            have g3 := k1c.frozen 3
                            have g4 := k1c.frozen 4
                            have zz := k1c.lt
                            have hz0 : w.heap.size < wc.heap.size := by omega
                            go_upto_if 119 with fail
                            rw [← HWc.out, ← hnb.out]
                            clear HWc hnb hzq m0 m1 m2 m3 m4 zm
                            obtain ⟨⟨c0', c1', c2', c3', c4'⟩, cf, cz⟩ := Nr.cells HNR.out
                            have cf0 := cf 0
                            have cf1 := cf 1
                            have cf4 := cf 4
                            have HNy := HNR
                            have HBy := HBc
                            have k0y := k0c
                            have k1y := k1c
                            clear cf HNR HBc
                            go_upto_region 20 with fail
                            obtain ⟨wy, HWy⟩ : ∃ wy, Hid (wy = wc) := ⟨_, rfl⟩
                            rw [← HWy.out] at HNy HBy k0y k1y
                            rw [← HWy.out]
                            clear HWy k0c k1c c0' c1' c2' c3' c4' cf0 cf1 cf4
                            obtain ⟨⟨c0', c1', c2', c3', c4'⟩, cf, cz⟩ := Nr.cells HNy.out
                            have cf1 := cf 1
                            clear cf
                            clear p0 p1 p2 p3 p4 z0 z1 z2 z3 z4 g0 g1 g2 g3 g4 zz hz0
                            obtain ⟨p0, p1, p2, p3, p4⟩ := smBox k0y
                            have z0 := k1y.cell 0
                            have z1 := k1y.cell 1
                            have z2 := k1y.cell 2
                            have z3 := k1y.cell 3
                            have z4 := k1y.cell 4
                            simp at z0 z1 z2 z3 z4
                            have g0 := k1y.frozen 0
                            have g1 := k1y.frozen 1
                            have g2 := k1y.frozen 2
                            have g3 := k1y.frozen 3
                            have g4 := k1y.frozen 4
                            have zz := k1y.lt
                            have hz0 : w.heap.size < wy.heap.size := by omega
                            go_wp2_with (at_builtin; refine wpList_append_src rfl (.tmp 134) (.tmp 142) 23 rfl B 52 i1 _ 7 72 Try.underlying23 hi1 hz1 hy1 hb1 rfl (by decide) _ s.opn.length (gCs s.opn) rfl (HNy.out.r1.alloc _) (some ⟨wy.heap.size, 0, none⟩) 1 1 (gCs [openX s name mode al eof]) rfl ⟨by omega, fun e => by cases e⟩ ?a4_1 ?a4_2 (g_one _) ?a4_4 ?a4_5 ?a4_6 ?_)
                            case a4_1 => rfl
                            case a4_2 =>
                              first
                                | (intro ad e j' u hj'
                                   injection e with e
                                   subst e
                                   have h := (Blk.new wy 52 #[.int .i64 s.nxt, .string name, .int .i64 mode, .int .i64 0, .string al, .int .i64 eof, .bool false]).cell j'
                                   rw [add_plain, Nat.zero_add]
                                   exact h.trans (by simpa [gCs] using hj'))
                                | (intro j' u hj'
                                   simpa [gCs] using hj')
                            case a4_4 => unfold maxLen; omega
                            case a4_5 => omega
                            case a4_6 => first | (simp; omega) | omega
                            intro v7 w7 ho7 hg7 hat7
                            rw [← gCs_app] at ho7
                            obtain ⟨D7, e7, rfl, -⟩ := own_form ho7
                            have hbA := bAlloc wy (.cells #[.int .i64 s.nxt, .string name, .int .i64 mode, .int .i64 0, .string al, .int .i64 eof, .bool false] 52)
                            have hny := HNy.out.next hbA
                            have hbx7 := hny.box.grown hg7 hny.n1
                            have hr7 := own_stay (w' := w7) hny.r0 fun g' hg' => hg7.block g' (hny.r0.lt g' hg').2 (fun e => by
                              obtain ⟨cs1, h1⟩ := own_ty hny.r0 hg'
                              obtain ⟨cs2, h2⟩ := own_ty hny.r1 e.symm
                              rw [h1] at h2
                              injection h2 with h2
                              injection h2 with _ h2 _
                              exact absurd h2 (by decide))
                            have hz7 := hg7.size
                            simp at hz7
                            have hn7 : (Value.slice D7 (s.opn.length + 1) e7).ownBlock ≠ some nb := fun h => by
                              rcases hat7 with h1 | h1
                              · exact hny.n1 (h1 ▸ h)
                              · rw [h] at h1; injection h1 with h1; (try simp at h1); omega
                            have HNz := Lib.hid (Nr.setV1 (l := s.opn ++ [openX s name mode al eof]) hbx7 hr7 hny.n0 ho7 (by simp) (Nat.le_refl B) hn7)
                            have hbw7 : Below w.heap.size w w7 := (bNext HBy.out hbA).grown hg7 (by simp; omega) (fun k' hk' => by have := (hny.r1.lt k' hk').1; omega)
                            have HBz := Lib.hid (hbw7.setCell (p := ⟨nb, 1, none⟩) (by simp; omega) (.slice D7 (s.opn.length + 1) e7))
                            have k0z := ((k0y.next hbA).grown hg7 (fun e => by have := (hny.r1.lt _ e).1; omega)).far (p := ⟨nb, 1, none⟩) (by simp; omega) (.slice D7 (s.opn.length + 1) e7)
                            have k1z := ((k1y.next hbA).grown hg7 (fun e => by have := (hny.r1.lt _ e).1; omega)).far (p := ⟨nb, 1, none⟩) (by simp; omega) (.slice D7 (s.opn.length + 1) e7)
                            have y1 := hbx7.cell 1
                            have y1f := hbx7.frozen 1
                            have yz := hbx7.lt
                            simp at y1
                            obtain ⟨wz, HWz⟩ : ∃ wz, Hid (wz = w7.setCell ⟨nb, 1, none⟩ (.slice D7 (s.opn.length + 1) e7)) := ⟨_, rfl⟩
                            rw [← HWz.out] at HNz HBz k0z k1z
                            clear c0' c1' c2' c3' c4' cf1 cz hbA hny hbx7 hr7 hz7 hn7 hbw7 k0y k1y ho7 hg7 hat7 HNy
                            go_upto_region 21 with fail
                            rw [← HWz.out]
                            clear HWz y1 y1f yz
                            obtain ⟨⟨c0', c1', c2', c3', c4'⟩, cf, cz⟩ := Nr.cells HNz.out
                            simp only [] at c4'
                            have cf4 := cf 4
                            clear cf
                            clear p0 p1 p2 p3 p4 z0 z1 z2 z3 z4 g0 g1 g2 g3 g4 zz hz0
                            obtain ⟨p0, p1, p2, p3, p4⟩ := smBox k0z
                            have z0 := k1z.cell 0
                            have z1 := k1z.cell 1
                            have z2 := k1z.cell 2
                            have z3 := k1z.cell 3
                            have z4 := k1z.cell 4
                            simp at z0 z1 z2 z3 z4
                            have g0 := k1z.frozen 0
                            have g1 := k1z.frozen 1
                            have g2 := k1z.frozen 2
                            have g3 := k1z.frozen 3
                            have g4 := k1z.frozen 4
                            have zz := k1z.lt
                            have hz0 : w.heap.size < wz.heap.size := by omega
                            have HNu := Lib.hid (HNz.out.setNxt (s.nxt + 1))
                            have HBu := Lib.hid (HBz.out.setCell (p := ⟨nb, 4, none⟩) (by simp; omega) (.int .i64 (s.nxt + 1)))
                            have k0u := k0z.far (p := ⟨nb, 4, none⟩) (by simp; omega) (.int .i64 (s.nxt + 1))
                            have k1u := k1z.far (p := ⟨nb, 4, none⟩) (by simp; omega) (.int .i64 (s.nxt + 1))
                            obtain ⟨wu, HWu⟩ : ∃ wu, Hid (wu = wz.setCell ⟨nb, 4, none⟩ (.int .i64 (s.nxt + 1))) := ⟨_, rfl⟩
                            rw [← HWu.out] at HNu HBu k0u k1u
                            go_wp2_with fail
                            rw [← HWu.out]
                            clear HWu c0' c1' c2' c3' c4' cf4 cz k0z k1z HNz
                            clear p0 p1 p2 p3 p4 z0 z1 z2 z3 z4 g0 g1 g2 g3 g4 zz hz0
                            obtain ⟨p0, p1, p2, p3, p4⟩ := smBox k0u
                            have z0 := k1u.cell 0
                            have z1 := k1u.cell 1
                            have z2 := k1u.cell 2
                            have z3 := k1u.cell 3
                            have z4 := k1u.cell 4
                            simp at z0 z1 z2 z3 z4
                            have g0 := k1u.frozen 0
                            have g1 := k1u.frozen 1
                            have g2 := k1u.frozen 2
                            have g3 := k1u.frozen 3
                            have g4 := k1u.frozen 4
                            have zz := k1u.lt
                            have hz0 : w.heap.size < wu.heap.size := by omega
                            refine wp_region_N (fun w' => Blk w' nb 25 #[.slice D0 s.files.length e0, .slice D7 (s.opn.length + 1) e7, .int .i64 s.inp, .int .i64 s.out, .int .i64 (s.nxt + 1)] ∧ Blk w' w.heap.size 25 #[.slice A0 s.files.length c0, .slice A1 s.opn.length c1, .int .i64 s.inp, .int .i64 s.out, .int .i64 s.nxt]) (fun j => decide (j < 4)) (by kernel_rfl) ?_
                            have hbu := HNu.out.box
                            have hS0 : (fun w' => Blk w' nb 25 #[.slice D0 s.files.length e0, .slice D7 (s.opn.length + 1) e7, .int .i64 s.inp, .int .i64 s.out, .int .i64 (s.nxt + 1)] ∧ Blk w' w.heap.size 25 #[.slice A0 s.files.length c0, .slice A1 s.opn.length c1, .int .i64 s.inp, .int .i64 s.out, .int .i64 s.nxt]) wu.drew := ⟨hbu, k0u⟩
                            refine wpAnyN_take (i := 0) (v := ?v10) rfl (by kernel_rfl) (by kernel_rfl) (by kernel_rfl) (by kernel_rfl) (fun _ _ _ h => h) (Or.inl ⟨by rfl, ?hy10⟩) (by assumption) ?_
                            case hy10 => intro w hSw; have y0 := hSw.1.cell 0; have y1 := hSw.1.cell 1; have y2 := hSw.1.cell 2; have y3 := hSw.1.cell 3; have y4 := hSw.1.cell 4; simp at y0 y1 y2 y3 y4; obtain ⟨x0, x1, x2, x3, x4⟩ := smBox hSw.2; go_simp; try with_reducible rfl
                            simp only [Act.put, List.getElem_toArray, List.getElem_cons_zero, List.setIfInBounds_toArray, List.set_cons_zero, List.set_cons_succ]
                            refine wpAnyN_take (i := 1) (v := ?v11) rfl (by kernel_rfl) (by kernel_rfl) (by kernel_rfl) (by kernel_rfl) (fun _ _ _ h => h) (Or.inl ⟨by rfl, ?hy11⟩) (by assumption) ?_
                            case hy11 => intro w hSw; have y0 := hSw.1.cell 0; have y1 := hSw.1.cell 1; have y2 := hSw.1.cell 2; have y3 := hSw.1.cell 3; have y4 := hSw.1.cell 4; simp at y0 y1 y2 y3 y4; obtain ⟨x0, x1, x2, x3, x4⟩ := smBox hSw.2; go_simp; try with_reducible rfl
                            simp only [Act.put, List.getElem_toArray, List.getElem_cons_zero, List.getElem_cons_succ, List.setIfInBounds_toArray, List.set_cons_zero, List.set_cons_succ]
                            refine wpAnyN_take (i := 2) (v := ?v12) rfl (by kernel_rfl) (by kernel_rfl) (by kernel_rfl) (by kernel_rfl) (fun _ _ _ h => h) (Or.inl ⟨by rfl, ?hy12⟩) (by assumption) ?_
                            case hy12 => intro w hSw; have y0 := hSw.1.cell 0; have y1 := hSw.1.cell 1; have y2 := hSw.1.cell 2; have y3 := hSw.1.cell 3; have y4 := hSw.1.cell 4; simp at y0 y1 y2 y3 y4; obtain ⟨x0, x1, x2, x3, x4⟩ := smBox hSw.2; go_simp; try with_reducible rfl
                            simp only [Act.put, List.getElem_toArray, List.getElem_cons_zero, List.getElem_cons_succ, List.setIfInBounds_toArray, List.set_cons_zero, List.set_cons_succ]
                            refine wpAnyN_one (i := 3) (by kernel_rfl) rfl (fun K hK => ?_)
                            simp only [List.getElem_toArray, List.getElem_cons_zero, List.getElem_cons_succ]
                            go_simp
                            refine hK _ _ (fun _ => ⟨by repeat (first | (with_reducible exact hbu) | (with_reducible refine Blk.drew1 ?_) | (with_reducible refine Blk.far ?_ ?_ _); rotate_left; focus (first | (simp; done) | (simp; omega))), by repeat (first | (with_reducible exact k0u) | (with_reducible refine Blk.drew1 ?_) | (with_reducible refine Blk.far ?_ ?_ _); rotate_left; focus (first | (simp; done) | (simp; omega)))⟩) ?_
                            refine wpAnyN_one (i := 4) (by kernel_rfl) rfl (fun K hK => ?_)
                            simp only [List.getElem_toArray, List.getElem_cons_zero, List.getElem_cons_succ]
                            go_simp
                            refine hK _ _ (fun h => absurd h (by decide)) ?_
                            refine wpAnyN_one (i := 5) (by kernel_rfl) rfl (fun K hK => ?_)
                            simp only [List.getElem_toArray, List.getElem_cons_zero, List.getElem_cons_succ]
                            go_simp
                            refine hK _ _ (fun h => absurd h (by decide)) ?_
                            refine wpAnyN_done (by kernel_rfl) ?_ _
                            go_wp2_with fail
                            refine bodyPost_ret (v := .tuple #[.agg #[.slice D0 s.files.length e0, .slice D7 (s.opn.length + 1) e7, .int .i64 (({ s with files := s.files, opn := s.opn ++ [openX s name mode al eof], nxt := s.nxt + 1 } : Sm)).inp, .int .i64 (({ s with files := s.files, opn := s.opn ++ [openX s name mode al eof], nxt := s.nxt + 1 } : Sm)).out, .int .i64 (({ s with files := s.files, opn := s.opn ++ [openX s name mode al eof], nxt := s.nxt + 1 } : Sm)).nxt], .int .i64 s.nxt, .int .i64 0]) (by simp only [results, Try.results55]; go_simp) rfl (RetG.good (HOK.out.trans (by unfold openS; rw [HQ.out])) ?_ ?_)
                            · refine (OwnS.stay (Nr.out (HNu.out)) fun b' hb' _ => ?_).base (by omega)
                              (try rw [heap_drew])
                              repeat rw [heap_setCell_other _ _ _ _ (by simp; omega)]
                            · repeat (first | (with_reducible exact HBu.out) | (with_reducible refine bDrew1 ?_) | ((with_reducible refine Below.setCell ?_ ?_ _); rotate_left; focus (first | (simp; done) | (simp; omega))) | ((with_reducible refine Below.alloc ?_ ?_ _); rotate_left; focus (first | (simp; done) | (simp; omega))))
end Go.Proofs.Ytklpghpfdeojeaa
