/-
  Walks: Use, Get, Skip, Peek of the reference.
-/
import Derived.Test.YtklpghpfdeojeaaVb
import Derived.Test.YtklpghpfdeojeaaUi
import Derived.Deep.Cut
namespace Go.Proofs.Ytklpghpfdeojeaa
open Go.RowKit

set_option maxHeartbeats 4000000 in
theorem Use_any (v : Value) (s : Sm) (id : Int) (w : World) (hs : SmAt w w.heap.size v s) :
    Calls Try.prog 63 #[v, .int .i64 id] w (RetS (useV s id) w) := by
  obtain ⟨A0, c0, A1, c1, rfl, hcap, h0, h1⟩ := hs
  have HS : Hid (SmAt w w.heap.size (smV A0 A1 c0 c1 s) s) := ⟨A0, c0, A1, c1, rfl, hcap, h0, h1⟩
  have HA := Lib.hid h0
  have HO := Lib.hid h1
  have hfl := h0.1.2
  have hol := h1.1.2
  clear h0 h1 hcap
  cases ha : askV s id true with
  | error er =>
    have HR := Lib.hid (show useV s id = .error er by simp [useV, ha])
    have HA2 := Lib.hid ha
    rcases askV_er ha with rfl | rfl
    · clear ha
      obtain ⟨W, HWd⟩ : ∃ W, Hid (W = ((w.alloc (.cells #[.slice A0 s.files.length c0, .slice A1 s.opn.length c1, .int .i64 s.inp, .int .i64 s.out, .int .i64 s.nxt] 25)).alloc (.cells #[.slice none 0 0, .slice none 0 0, .int .i64 0, .int .i64 0, .int .i64 0] 25))) := ⟨_, rfl⟩
      have hbW : Below w.heap.size w W := by
        rw [HWd.out]
        exact (Below.alloc (bAlloc w _) (by simp) _)
      have hzW : W.heap.size = w.heap.size + 2 := by rw [HWd.out]; simp
      have k0 : Blk W w.heap.size 25 #[.slice A0 s.files.length c0, .slice A1 s.opn.length c1, .int .i64 s.inp, .int .i64 s.out, .int .i64 s.nxt] := by rw [HWd.out]; exact (Blk.alloc (Blk.new _ _ _) (.cells #[.slice none 0 0, .slice none 0 0, .int .i64 0, .int .i64 0, .int .i64 0] 25))
      have k1 : Blk W (w.heap.size + 1) 25 #[.slice none 0 0, .slice none 0 0, .int .i64 0, .int .i64 0, .int .i64 0] := by
        have h := (Blk.new (w.alloc (.cells #[.slice A0 s.files.length c0, .slice A1 s.opn.length c1, .int .i64 s.inp, .int .i64 s.out, .int .i64 s.nxt] 25)) 25 #[.slice none 0 0, .slice none 0 0, .int .i64 0, .int .i64 0, .int .i64 0])
        rw [World.size_alloc] at h
        rw [HWd.out]; exact h
      have HBW := Lib.hid hbW
      clear hbW
      go_enter Try.func63, Try.ntmps63
      go_wp2_with fail
      rw [← HWd.out]
      refine (asked_bad HA2.out _ _ (HS.out.next HBW.out)).mono ?_
      rintro e w1 ⟨rfl, hb1⟩
      have HB1 := Lib.hid (bNext HBW.out hb1)
      have k01 := k0.next hb1
      have k11 := k1.next hb1
      clear hb1 k0 k1
      obtain ⟨p0, p1, p2, p3, p4⟩ := smBox k01
      have z0 := k11.cell 0
      have z1 := k11.cell 1
      have z2 := k11.cell 2
      have z3 := k11.cell 3
      have z4 := k11.cell 4
      simp at z0 z1 z2 z3 z4
      have g0 := k11.frozen 0
      have g1 := k11.frozen 1
      have g2 := k11.frozen 2
      have g3 := k11.frozen 3
      have g4 := k11.frozen 4
      have zz := k11.lt
      have hz0 : w.heap.size < w1.heap.size := by omega
      go_wp2_with fail
      refine bodyPost_ret (v := .tuple #[zV, .int .i64 1]) (by simp only [results, Try.results63]; go_simp) rfl (RetS.bad HR.out ?_)
      repeat (first | (with_reducible exact HB1.out) | ((with_reducible refine Below.setCell ?_ ?_ _); rotate_left; focus (first | (simp; done) | (simp; omega))) | ((with_reducible refine Below.alloc ?_ ?_ _); rotate_left; focus (first | (simp; done) | (simp; omega))))
    · clear ha
      obtain ⟨W, HWd⟩ : ∃ W, Hid (W = ((w.alloc (.cells #[.slice A0 s.files.length c0, .slice A1 s.opn.length c1, .int .i64 s.inp, .int .i64 s.out, .int .i64 s.nxt] 25)).alloc (.cells #[.slice none 0 0, .slice none 0 0, .int .i64 0, .int .i64 0, .int .i64 0] 25))) := ⟨_, rfl⟩
      have hbW : Below w.heap.size w W := by
        rw [HWd.out]
        exact (Below.alloc (bAlloc w _) (by simp) _)
      have hzW : W.heap.size = w.heap.size + 2 := by rw [HWd.out]; simp
      have k0 : Blk W w.heap.size 25 #[.slice A0 s.files.length c0, .slice A1 s.opn.length c1, .int .i64 s.inp, .int .i64 s.out, .int .i64 s.nxt] := by rw [HWd.out]; exact (Blk.alloc (Blk.new _ _ _) (.cells #[.slice none 0 0, .slice none 0 0, .int .i64 0, .int .i64 0, .int .i64 0] 25))
      have k1 : Blk W (w.heap.size + 1) 25 #[.slice none 0 0, .slice none 0 0, .int .i64 0, .int .i64 0, .int .i64 0] := by
        have h := (Blk.new (w.alloc (.cells #[.slice A0 s.files.length c0, .slice A1 s.opn.length c1, .int .i64 s.inp, .int .i64 s.out, .int .i64 s.nxt] 25)) 25 #[.slice none 0 0, .slice none 0 0, .int .i64 0, .int .i64 0, .int .i64 0])
        rw [World.size_alloc] at h
        rw [HWd.out]; exact h
      have HBW := Lib.hid hbW
      clear hbW
      go_enter Try.func63, Try.ntmps63
      go_wp2_with fail
      rw [← HWd.out]
      refine (asked_bad HA2.out _ _ (HS.out.next HBW.out)).mono ?_
      rintro e w1 ⟨rfl, hb1⟩
      have HB1 := Lib.hid (bNext HBW.out hb1)
      have k01 := k0.next hb1
      have k11 := k1.next hb1
      clear hb1 k0 k1
      obtain ⟨p0, p1, p2, p3, p4⟩ := smBox k01
      have z0 := k11.cell 0
      have z1 := k11.cell 1
      have z2 := k11.cell 2
      have z3 := k11.cell 3
      have z4 := k11.cell 4
      simp at z0 z1 z2 z3 z4
      have g0 := k11.frozen 0
      have g1 := k11.frozen 1
      have g2 := k11.frozen 2
      have g3 := k11.frozen 3
      have g4 := k11.frozen 4
      have zz := k11.lt
      have hz0 : w.heap.size < w1.heap.size := by omega
      go_wp2_with fail
      refine bodyPost_ret (v := .tuple #[zV, .int .i64 4]) (by simp only [results, Try.results63]; go_simp) rfl (RetS.bad HR.out ?_)
      repeat (first | (with_reducible exact HB1.out) | ((with_reducible refine Below.setCell ?_ ?_ _); rotate_left; focus (first | (simp; done) | (simp; omega))) | ((with_reducible refine Below.alloc ?_ ?_ _); rotate_left; focus (first | (simp; done) | (simp; omega))))
  | ok i =>
    obtain ⟨hv, -, hix, x, hx, hid⟩ := askV_ok ha
    have HRU := Lib.hid (show useV s id = .ok (useS s x.mode id) by simp [useV, ha, hx])
    have HA2 := Lib.hid ha
    clear ha hid hix
    have hil := (List.getElem?_eq_some_iff.1 hx).1
    obtain ⟨k, hk1, hk2, hk3, hk4, hk5⟩ := valid_file hv hx
    have hkl := (List.getElem?_eq_some_iff.1 hk2).1
    obtain ⟨hvf, hvo, hvn1, hvn2, -, -⟩ := valid_head hv
    obtain ⟨b, off, x', rfl, hb, hx', hx4⟩ := HO.out.at hil
    rw [hx] at hx'
    injection hx' with hx'
    subst hx'
    obtain ⟨bf, offf, f', rfl, hbf, hf', hf4⟩ := HA.out.at hkl
    rw [hk2] at hf'
    injection hf' with hf'
    obtain ⟨f, hfd⟩ : ∃ f, fileOf s x = f := ⟨_, rfl⟩
    rw [hfd] at hf' hk2 hk3 hk4 hk5
    subst hf'
    have HFD := Lib.hid hfd
    have HX := Lib.hid hx
    have HV := Lib.hid hv
    have HX4 := Lib.hid hx4
    have HF4 := Lib.hid hf4
    have HK1x := Lib.hid hk1
    have HK2x := Lib.hid hk2
    have HK5x := Lib.hid hk5
    clear hk1 hk2 hk3 hk5 hv hx hfd hx4 hf4
    have hili : (i : Int) < (s.opn.length : Int) := by omega
    have hkli : (k : Int) < (s.files.length : Int) := by omega
    obtain ⟨W, HWd⟩ : ∃ W, Hid (W = ((w.alloc (.cells #[.slice (some ⟨bf, offf, none⟩) s.files.length c0, .slice (some ⟨b, off, none⟩) s.opn.length c1, .int .i64 s.inp, .int .i64 s.out, .int .i64 s.nxt] 25)).alloc (.cells #[.slice none 0 0, .slice none 0 0, .int .i64 0, .int .i64 0, .int .i64 0] 25))) := ⟨_, rfl⟩
    have hbW : Below w.heap.size w W := by
      rw [HWd.out]
      exact (Below.alloc (bAlloc w _) (by simp) _)
    have hzW : W.heap.size = w.heap.size + 2 := by rw [HWd.out]; simp
    have k0 : Blk W w.heap.size 25 #[.slice (some ⟨bf, offf, none⟩) s.files.length c0, .slice (some ⟨b, off, none⟩) s.opn.length c1, .int .i64 s.inp, .int .i64 s.out, .int .i64 s.nxt] := by rw [HWd.out]; exact (Blk.alloc (Blk.new _ _ _) (.cells #[.slice none 0 0, .slice none 0 0, .int .i64 0, .int .i64 0, .int .i64 0] 25))
    have k1 : Blk W (w.heap.size + 1) 25 #[.slice none 0 0, .slice none 0 0, .int .i64 0, .int .i64 0, .int .i64 0] := by
      have h := (Blk.new (w.alloc (.cells #[.slice (some ⟨bf, offf, none⟩) s.files.length c0, .slice (some ⟨b, off, none⟩) s.opn.length c1, .int .i64 s.inp, .int .i64 s.out, .int .i64 s.nxt] 25)) 25 #[.slice none 0 0, .slice none 0 0, .int .i64 0, .int .i64 0, .int .i64 0])
      rw [World.size_alloc] at h
      rw [HWd.out]; exact h
    have HBW := Lib.hid hbW
    clear hbW
    go_enter Try.func63, Try.ntmps63
    go_wp2_with fail
    rw [← HWd.out]
    refine (asked_good HA2.out _ _ (HS.out.next HBW.out)).mono ?_
    rintro e w1 ⟨rfl, hb1⟩
    have HB1 := Lib.hid (bNext HBW.out hb1)
    have k01 := k0.next hb1
    have k11 := k1.next hb1
    clear hb1 k0 k1
    obtain ⟨p0, p1, p2, p3, p4⟩ := smBox k01
    have z0 := k11.cell 0
    have z1 := k11.cell 1
    have z2 := k11.cell 2
    have z3 := k11.cell 3
    have z4 := k11.cell 4
    simp at z0 z1 z2 z3 z4
    have g0 := k11.frozen 0
    have g1 := k11.frozen 1
    have g2 := k11.frozen 2
    have g3 := k11.frozen 3
    have g4 := k11.frozen 4
    have zz := k11.lt
    have hz0 : w.heap.size < w1.heap.size := by omega
    go_wp2_with fail
    refine (clone_own _ s _ (HS.out.next HB1.out)).mono ?_
    rintro e wq ⟨⟨v0, v1, rfl, o0, o1⟩, hbq⟩
    obtain ⟨D0, e0, rfl, -⟩ := own_form o0
    obtain ⟨D1, e1, rfl, -⟩ := own_form o1
    have HBq := Lib.hid (bNext HB1.out hbq)
    have k0q := k01.next hbq
    have k1q := k11.next hbq
    have hzq := hbq.size
    have hr0 := Nr.made o0 o1
    have hbA := bAlloc wq (.cells #[.slice D0 s.files.length e0, .slice D1 s.opn.length e1, .int .i64 s.inp, .int .i64 s.out, .int .i64 s.nxt] 25)
    obtain ⟨wc, HWc⟩ : ∃ wc, Hid (wc = wq.alloc (.cells #[.slice D0 s.files.length e0, .slice D1 s.opn.length e1, .int .i64 s.inp, .int .i64 s.out, .int .i64 s.nxt] 25)) := ⟨_, rfl⟩
    obtain ⟨B, hB⟩ : ∃ B, Hid (B = w1.heap.size) := ⟨_, rfl⟩
    obtain ⟨nb, hnb⟩ : ∃ nb, Hid (nb = wq.heap.size) := ⟨_, rfl⟩
    rw [← HWc.out] at hr0 hbA
    have HBc := Lib.hid (bNext HBq.out hbA)
    have k0c := k0q.next hbA
    have k1c := k1q.next hbA
    rw [← hB.out, ← hnb.out] at hr0
    have hBw : w.heap.size + 1 < B := by rw [hB.out]; exact k11.lt
    have hBn : B ≤ nb := by rw [hB.out, hnb.out]; exact hzq
    have HNR := Lib.hid hr0
    clear hr0 hbA hbq o0 o1 k01 k11 k0q k1q
    clear p0 p1 p2 p3 p4 z0 z1 z2 z3 z4 g0 g1 g2 g3 g4 zz hz0
    obtain ⟨p0, p1, p2, p3, p4⟩ := smBox k0c
    have z0 := k1c.cell 0
    have z1 := k1c.cell 1
    have z2 := k1c.cell 2
    have z3 := k1c.cell 3
    have z4 := k1c.cell 4
    simp at z0 z1 z2 z3 z4
    have g0 := k1c.frozen 0
    have g1 := k1c.frozen 1
    have g2 := k1c.frozen 2
    have g3 := k1c.frozen 3
    have g4 := k1c.frozen 4
    have zz := k1c.lt
    have hz0 : w.heap.size < wc.heap.size := by omega
    go_upto_region 5 with fail
    rw [← HWc.out, ← hnb.out]
    clear HWc hnb hzq
    obtain ⟨⟨c0', c1', c2', c3', c4'⟩, cf, cz⟩ := Nr.cells HNR.out
    obtain ⟨g, cap, hD1, -, -, hgz, hgn, -, hfr, hgc⟩ := Nr.opens HNR.out (by omega)
    injection hD1 with hD1 _ hD1c
    subst hD1 hD1c
    obtain ⟨q0, q1, q2, q3, q4, q5, q6⟩ := hgc i x HX.out
    have f2 := cf 2
    have f3 := cf 3
    clear hgc hfr cf
    cases hm : x.mode == 1
    · have HR := Lib.hid (show useV s id = .ok { s with out := id } by rw [HRU.out]; simp [useS, hm])
      go_wp2_with fail
      refine bodyPost_ret (v := .tuple #[.agg #[.slice D0 s.files.length e0, .slice (some ⟨g, 0, none⟩) s.opn.length e1, .int .i64 (({ s with out := id } : Sm)).inp, .int .i64 (({ s with out := id } : Sm)).out, .int .i64 (({ s with out := id } : Sm)).nxt], .int .i64 0]) (by simp only [results, Try.results63]; go_simp) rfl (RetS.good (HR.out) ?_ ?_)
      · refine (OwnS.stay (Nr.out (HNR.out.setOut id)) fun b' hb' _ => ?_).base (by omega)
        (try rw [heap_drew])
        repeat rw [heap_setCell_other _ _ _ _ (by simp; omega)]
      · repeat (first | (with_reducible exact HBc.out) | (with_reducible refine bDrew1 ?_) | ((with_reducible refine Below.setCell ?_ ?_ _); rotate_left; focus (first | (simp; done) | (simp; omega))) | ((with_reducible refine Below.alloc ?_ ?_ _); rotate_left; focus (first | (simp; done) | (simp; omega))))
    · have HR := Lib.hid (show useV s id = .ok { s with inp := id } by rw [HRU.out]; simp [useS, hm])
      go_wp2_with fail
      refine bodyPost_ret (v := .tuple #[.agg #[.slice D0 s.files.length e0, .slice (some ⟨g, 0, none⟩) s.opn.length e1, .int .i64 (({ s with inp := id } : Sm)).inp, .int .i64 (({ s with inp := id } : Sm)).out, .int .i64 (({ s with inp := id } : Sm)).nxt], .int .i64 0]) (by simp only [results, Try.results63]; go_simp) rfl (RetS.good (HR.out) ?_ ?_)
      · refine (OwnS.stay (Nr.out (HNR.out.setIn id)) fun b' hb' _ => ?_).base (by omega)
        (try rw [heap_drew])
        repeat rw [heap_setCell_other _ _ _ _ (by simp; omega)]
      · repeat (first | (with_reducible exact HBc.out) | (with_reducible refine bDrew1 ?_) | ((with_reducible refine Below.setCell ?_ ?_ _); rotate_left; focus (first | (simp; done) | (simp; omega))) | ((with_reducible refine Below.alloc ?_ ?_ _); rotate_left; focus (first | (simp; done) | (simp; omega))))
theorem valid_past {s : Sm} (h : validB s = true) {i : Nat} {x : G} (hx : s.opn[i]? = some x) (hm : x.mode = 1) (he : (x.eof == 3) = true) : x.past = false := by
  have h1 := and_right (valid_st h hx)
  unfold fitsB fitsX at h1
  have h2 := and_right h1
  rw [hm] at h2
  simp only [he, Bool.and_eq_true, beq_self_eq_true, if_true] at h2
  have h3 := h2.2
  simpa using h3
theorem set_same {l : List G} {i : Nat} {x : G} (hx : l[i]? = some x) : l.set i x = l := by
  obtain ⟨h1, h2⟩ := List.getElem?_eq_some_iff.1 hx
  subst h2
  exact List.set_getElem_self h1

set_option maxHeartbeats 4000000 in
theorem Get_any (v : Value) (s : Sm) (id : Int) (w : World) (hs : SmAt w w.heap.size v s) :
    Calls Try.prog 57 #[v, .int .i64 id] w (RetG (getV s id) w) := by
  obtain ⟨A0, c0, A1, c1, rfl, hcap, h0, h1⟩ := hs
  have HS : Hid (SmAt w w.heap.size (smV A0 A1 c0 c1 s) s) := ⟨A0, c0, A1, c1, rfl, hcap, h0, h1⟩
  have HA := Lib.hid h0
  have HO := Lib.hid h1
  have hfl := h0.1.2
  have hol := h1.1.2
  clear h0 h1 hcap
  cases ha : readV s id true with
  | error er =>
    have HR := Lib.hid (show getV s id = .error er by simp [getV, ha])
    have HA2 := Lib.hid ha
    rcases readV_er ha with rfl | rfl | rfl
    · clear ha
      obtain ⟨W, HWd⟩ : ∃ W, Hid (W = ((w.alloc (.cells #[.slice A0 s.files.length c0, .slice A1 s.opn.length c1, .int .i64 s.inp, .int .i64 s.out, .int .i64 s.nxt] 25)).alloc (.cells #[.slice none 0 0, .slice none 0 0, .int .i64 0, .int .i64 0, .int .i64 0] 25))) := ⟨_, rfl⟩
      have hbW : Below w.heap.size w W := by
        rw [HWd.out]
        exact (Below.alloc (bAlloc w _) (by simp) _)
      have hzW : W.heap.size = w.heap.size + 2 := by rw [HWd.out]; simp
      have k0 : Blk W w.heap.size 25 #[.slice A0 s.files.length c0, .slice A1 s.opn.length c1, .int .i64 s.inp, .int .i64 s.out, .int .i64 s.nxt] := by rw [HWd.out]; exact (Blk.alloc (Blk.new _ _ _) (.cells #[.slice none 0 0, .slice none 0 0, .int .i64 0, .int .i64 0, .int .i64 0] 25))
      have k1 : Blk W (w.heap.size + 1) 25 #[.slice none 0 0, .slice none 0 0, .int .i64 0, .int .i64 0, .int .i64 0] := by
        have h := (Blk.new (w.alloc (.cells #[.slice A0 s.files.length c0, .slice A1 s.opn.length c1, .int .i64 s.inp, .int .i64 s.out, .int .i64 s.nxt] 25)) 25 #[.slice none 0 0, .slice none 0 0, .int .i64 0, .int .i64 0, .int .i64 0])
        rw [World.size_alloc] at h
        rw [HWd.out]; exact h
      have HBW := Lib.hid hbW
      clear hbW
      go_enter Try.func57, Try.ntmps57
      go_wp2_with fail
      rw [← HWd.out]
      refine (input_bad HA2.out _ _ (HS.out.next HBW.out)).mono ?_
      rintro e w1 ⟨rfl, hb1⟩
      have HB1 := Lib.hid (bNext HBW.out hb1)
      have k01 := k0.next hb1
      have k11 := k1.next hb1
      clear hb1 k0 k1
      obtain ⟨p0, p1, p2, p3, p4⟩ := smBox k01
      have z0 := k11.cell 0
      have z1 := k11.cell 1
      have z2 := k11.cell 2
      have z3 := k11.cell 3
      have z4 := k11.cell 4
      simp at z0 z1 z2 z3 z4
      have g0 := k11.frozen 0
      have g1 := k11.frozen 1
      have g2 := k11.frozen 2
      have g3 := k11.frozen 3
      have g4 := k11.frozen 4
      have zz := k11.lt
      have hz0 : w.heap.size < w1.heap.size := by omega
      go_wp2_with fail
      refine bodyPost_ret (v := .tuple #[zV, .int .i64 0, .int .i64 1]) (by simp only [results, Try.results57]; go_simp) rfl (RetG.bad HR.out ?_)
      repeat (first | (with_reducible exact HB1.out) | (with_reducible refine bDrewN (n := 1) ?_) | ((with_reducible refine Below.setCell ?_ ?_ _); rotate_left; focus (first | (simp; done) | (simp; omega))) | ((with_reducible refine Below.alloc ?_ ?_ _); rotate_left; focus (first | (simp; done) | (simp; omega))))
    · clear ha
      obtain ⟨W, HWd⟩ : ∃ W, Hid (W = ((w.alloc (.cells #[.slice A0 s.files.length c0, .slice A1 s.opn.length c1, .int .i64 s.inp, .int .i64 s.out, .int .i64 s.nxt] 25)).alloc (.cells #[.slice none 0 0, .slice none 0 0, .int .i64 0, .int .i64 0, .int .i64 0] 25))) := ⟨_, rfl⟩
      have hbW : Below w.heap.size w W := by
        rw [HWd.out]
        exact (Below.alloc (bAlloc w _) (by simp) _)
      have hzW : W.heap.size = w.heap.size + 2 := by rw [HWd.out]; simp
      have k0 : Blk W w.heap.size 25 #[.slice A0 s.files.length c0, .slice A1 s.opn.length c1, .int .i64 s.inp, .int .i64 s.out, .int .i64 s.nxt] := by rw [HWd.out]; exact (Blk.alloc (Blk.new _ _ _) (.cells #[.slice none 0 0, .slice none 0 0, .int .i64 0, .int .i64 0, .int .i64 0] 25))
      have k1 : Blk W (w.heap.size + 1) 25 #[.slice none 0 0, .slice none 0 0, .int .i64 0, .int .i64 0, .int .i64 0] := by
        have h := (Blk.new (w.alloc (.cells #[.slice A0 s.files.length c0, .slice A1 s.opn.length c1, .int .i64 s.inp, .int .i64 s.out, .int .i64 s.nxt] 25)) 25 #[.slice none 0 0, .slice none 0 0, .int .i64 0, .int .i64 0, .int .i64 0])
        rw [World.size_alloc] at h
        rw [HWd.out]; exact h
      have HBW := Lib.hid hbW
      clear hbW
      go_enter Try.func57, Try.ntmps57
      go_wp2_with fail
      rw [← HWd.out]
      refine (input_bad HA2.out _ _ (HS.out.next HBW.out)).mono ?_
      rintro e w1 ⟨rfl, hb1⟩
      have HB1 := Lib.hid (bNext HBW.out hb1)
      have k01 := k0.next hb1
      have k11 := k1.next hb1
      clear hb1 k0 k1
      obtain ⟨p0, p1, p2, p3, p4⟩ := smBox k01
      have z0 := k11.cell 0
      have z1 := k11.cell 1
      have z2 := k11.cell 2
      have z3 := k11.cell 3
      have z4 := k11.cell 4
      simp at z0 z1 z2 z3 z4
      have g0 := k11.frozen 0
      have g1 := k11.frozen 1
      have g2 := k11.frozen 2
      have g3 := k11.frozen 3
      have g4 := k11.frozen 4
      have zz := k11.lt
      have hz0 : w.heap.size < w1.heap.size := by omega
      go_wp2_with fail
      refine bodyPost_ret (v := .tuple #[zV, .int .i64 0, .int .i64 4]) (by simp only [results, Try.results57]; go_simp) rfl (RetG.bad HR.out ?_)
      repeat (first | (with_reducible exact HB1.out) | (with_reducible refine bDrewN (n := 1) ?_) | ((with_reducible refine Below.setCell ?_ ?_ _); rotate_left; focus (first | (simp; done) | (simp; omega))) | ((with_reducible refine Below.alloc ?_ ?_ _); rotate_left; focus (first | (simp; done) | (simp; omega))))
    · clear ha
      obtain ⟨W, HWd⟩ : ∃ W, Hid (W = ((w.alloc (.cells #[.slice A0 s.files.length c0, .slice A1 s.opn.length c1, .int .i64 s.inp, .int .i64 s.out, .int .i64 s.nxt] 25)).alloc (.cells #[.slice none 0 0, .slice none 0 0, .int .i64 0, .int .i64 0, .int .i64 0] 25))) := ⟨_, rfl⟩
      have hbW : Below w.heap.size w W := by
        rw [HWd.out]
        exact (Below.alloc (bAlloc w _) (by simp) _)
      have hzW : W.heap.size = w.heap.size + 2 := by rw [HWd.out]; simp
      have k0 : Blk W w.heap.size 25 #[.slice A0 s.files.length c0, .slice A1 s.opn.length c1, .int .i64 s.inp, .int .i64 s.out, .int .i64 s.nxt] := by rw [HWd.out]; exact (Blk.alloc (Blk.new _ _ _) (.cells #[.slice none 0 0, .slice none 0 0, .int .i64 0, .int .i64 0, .int .i64 0] 25))
      have k1 : Blk W (w.heap.size + 1) 25 #[.slice none 0 0, .slice none 0 0, .int .i64 0, .int .i64 0, .int .i64 0] := by
        have h := (Blk.new (w.alloc (.cells #[.slice A0 s.files.length c0, .slice A1 s.opn.length c1, .int .i64 s.inp, .int .i64 s.out, .int .i64 s.nxt] 25)) 25 #[.slice none 0 0, .slice none 0 0, .int .i64 0, .int .i64 0, .int .i64 0])
        rw [World.size_alloc] at h
        rw [HWd.out]; exact h
      have HBW := Lib.hid hbW
      clear hbW
      go_enter Try.func57, Try.ntmps57
      go_wp2_with fail
      rw [← HWd.out]
      refine (input_bad HA2.out _ _ (HS.out.next HBW.out)).mono ?_
      rintro e w1 ⟨rfl, hb1⟩
      have HB1 := Lib.hid (bNext HBW.out hb1)
      have k01 := k0.next hb1
      have k11 := k1.next hb1
      clear hb1 k0 k1
      obtain ⟨p0, p1, p2, p3, p4⟩ := smBox k01
      have z0 := k11.cell 0
      have z1 := k11.cell 1
      have z2 := k11.cell 2
      have z3 := k11.cell 3
      have z4 := k11.cell 4
      simp at z0 z1 z2 z3 z4
      have g0 := k11.frozen 0
      have g1 := k11.frozen 1
      have g2 := k11.frozen 2
      have g3 := k11.frozen 3
      have g4 := k11.frozen 4
      have zz := k11.lt
      have hz0 : w.heap.size < w1.heap.size := by omega
      go_wp2_with fail
      refine bodyPost_ret (v := .tuple #[zV, .int .i64 0, .int .i64 5]) (by simp only [results, Try.results57]; go_simp) rfl (RetG.bad HR.out ?_)
      repeat (first | (with_reducible exact HB1.out) | (with_reducible refine bDrewN (n := 1) ?_) | ((with_reducible refine Below.setCell ?_ ?_ _); rotate_left; focus (first | (simp; done) | (simp; omega))) | ((with_reducible refine Below.alloc ?_ ?_ _); rotate_left; focus (first | (simp; done) | (simp; omega))))
  | ok i =>
    obtain ⟨hask, x, hx, hid, hmode, -⟩ := readV_ok ha
    obtain ⟨hv, hok, -, -⟩ := askV_ok hask
    have HRG := Lib.hid (show getV s id = .ok ({ s with opn := s.opn.set i (getG (getC (restT s x)) x) }, getC (restT s x)) by simp [getV, ha, hx])
    have HA2 := Lib.hid ha
    clear hask hok ha hid
    have hil := (List.getElem?_eq_some_iff.1 hx).1
    obtain ⟨k, hk1, hk2, hk3, hk4, hk5⟩ := valid_file hv hx
    have hkl := (List.getElem?_eq_some_iff.1 hk2).1
    obtain ⟨hvf, hvo, hvn1, hvn2, -, -⟩ := valid_head hv
    obtain ⟨b, off, x', rfl, hb, hx', hx4⟩ := HO.out.at hil
    rw [hx] at hx'
    injection hx' with hx'
    subst hx'
    obtain ⟨bf, offf, f', rfl, hbf, hf', hf4⟩ := HA.out.at hkl
    rw [hk2] at hf'
    injection hf' with hf'
    obtain ⟨f, hfd⟩ : ∃ f, fileOf s x = f := ⟨_, rfl⟩
    rw [hfd] at hf' hk2 hk3 hk4 hk5
    subst hf'
    have HFD := Lib.hid hfd
    have HX := Lib.hid hx
    have HV := Lib.hid hv
    have HX4 := Lib.hid hx4
    have HF4 := Lib.hid hf4
    have HK1x := Lib.hid hk1
    have HK2x := Lib.hid hk2
    have HK5x := Lib.hid hk5
    clear hk1 hk2 hk3 hk5 hv hx hfd hx4 hf4
    have hili : (i : Int) < (s.opn.length : Int) := by omega
    have hkli : (k : Int) < (s.files.length : Int) := by omega
    have hp := HK5x.out hmode
    have HME := Lib.hid hmode
    have hrs : ((restT s x).size : Int) = f.text.size - x.pos := by have h := restT_size (s := s) (x := x) (by rw [HFD.out]; exact hp); rw [HFD.out] at h; exact h
    obtain ⟨t, ht⟩ : ∃ t, restT s x = t := ⟨_, rfl⟩
    rw [ht] at hrs HRG
    have HT := Lib.hid ht
    clear ht hmode
    obtain ⟨W, HWd⟩ : ∃ W, Hid (W = ((w.alloc (.cells #[.slice (some ⟨bf, offf, none⟩) s.files.length c0, .slice (some ⟨b, off, none⟩) s.opn.length c1, .int .i64 s.inp, .int .i64 s.out, .int .i64 s.nxt] 25)).alloc (.cells #[.slice none 0 0, .slice none 0 0, .int .i64 0, .int .i64 0, .int .i64 0] 25))) := ⟨_, rfl⟩
    have hbW : Below w.heap.size w W := by
      rw [HWd.out]
      exact (Below.alloc (bAlloc w _) (by simp) _)
    have hzW : W.heap.size = w.heap.size + 2 := by rw [HWd.out]; simp
    have k0 : Blk W w.heap.size 25 #[.slice (some ⟨bf, offf, none⟩) s.files.length c0, .slice (some ⟨b, off, none⟩) s.opn.length c1, .int .i64 s.inp, .int .i64 s.out, .int .i64 s.nxt] := by rw [HWd.out]; exact (Blk.alloc (Blk.new _ _ _) (.cells #[.slice none 0 0, .slice none 0 0, .int .i64 0, .int .i64 0, .int .i64 0] 25))
    have k1 : Blk W (w.heap.size + 1) 25 #[.slice none 0 0, .slice none 0 0, .int .i64 0, .int .i64 0, .int .i64 0] := by
      have h := (Blk.new (w.alloc (.cells #[.slice (some ⟨bf, offf, none⟩) s.files.length c0, .slice (some ⟨b, off, none⟩) s.opn.length c1, .int .i64 s.inp, .int .i64 s.out, .int .i64 s.nxt] 25)) 25 #[.slice none 0 0, .slice none 0 0, .int .i64 0, .int .i64 0, .int .i64 0])
      rw [World.size_alloc] at h
      rw [HWd.out]; exact h
    have HBW := Lib.hid hbW
    clear hbW
    go_enter Try.func57, Try.ntmps57
    go_wp2_with fail
    rw [← HWd.out]
    refine (input_good HA2.out _ _ (HS.out.next HBW.out)).mono ?_
    rintro e w1 ⟨rfl, hb1⟩
    have HB1 := Lib.hid (bNext HBW.out hb1)
    have k01 := k0.next hb1
    have k11 := k1.next hb1
    clear hb1 k0 k1
    obtain ⟨p0, p1, p2, p3, p4⟩ := smBox k01
    have z0 := k11.cell 0
    have z1 := k11.cell 1
    have z2 := k11.cell 2
    have z3 := k11.cell 3
    have z4 := k11.cell 4
    simp at z0 z1 z2 z3 z4
    have g0 := k11.frozen 0
    have g1 := k11.frozen 1
    have g2 := k11.frozen 2
    have g3 := k11.frozen 3
    have g4 := k11.frozen 4
    have zz := k11.lt
    have hz0 : w.heap.size < w1.heap.size := by omega
    go_wp2_with fail
    refine (clone_own _ s _ (HS.out.next HB1.out)).mono ?_
    rintro e wq ⟨⟨v0, v1, rfl, o0, o1⟩, hbq⟩
    obtain ⟨D0, e0, rfl, -⟩ := own_form o0
    obtain ⟨D1, e1, rfl, -⟩ := own_form o1
    have HBq := Lib.hid (bNext HB1.out hbq)
    have k0q := k01.next hbq
    have k1q := k11.next hbq
    have hzq := hbq.size
    have hr0 := Nr.made o0 o1
    have hbA := bAlloc wq (.cells #[.slice D0 s.files.length e0, .slice D1 s.opn.length e1, .int .i64 s.inp, .int .i64 s.out, .int .i64 s.nxt] 25)
    obtain ⟨wc, HWc⟩ : ∃ wc, Hid (wc = wq.alloc (.cells #[.slice D0 s.files.length e0, .slice D1 s.opn.length e1, .int .i64 s.inp, .int .i64 s.out, .int .i64 s.nxt] 25)) := ⟨_, rfl⟩
    obtain ⟨B, hB⟩ : ∃ B, Hid (B = w1.heap.size) := ⟨_, rfl⟩
    obtain ⟨nb, hnb⟩ : ∃ nb, Hid (nb = wq.heap.size) := ⟨_, rfl⟩
    rw [← HWc.out] at hr0 hbA
    have HBc := Lib.hid (bNext HBq.out hbA)
    have k0c := k0q.next hbA
    have k1c := k1q.next hbA
    rw [← hB.out, ← hnb.out] at hr0
    have hBw : w.heap.size + 1 < B := by rw [hB.out]; exact k11.lt
    have hBn : B ≤ nb := by rw [hB.out, hnb.out]; exact hzq
    have HNR := Lib.hid hr0
    clear hr0 hbA hbq o0 o1 k01 k11 k0q k1q
    clear p0 p1 p2 p3 p4 z0 z1 z2 z3 z4 g0 g1 g2 g3 g4 zz hz0
    obtain ⟨p0, p1, p2, p3, p4⟩ := smBox k0c
    have z0 := k1c.cell 0
    have z1 := k1c.cell 1
    have z2 := k1c.cell 2
    have z3 := k1c.cell 3
    have z4 := k1c.cell 4
    simp at z0 z1 z2 z3 z4
    have g0 := k1c.frozen 0
    have g1 := k1c.frozen 1
    have g2 := k1c.frozen 2
    have g3 := k1c.frozen 3
    have g4 := k1c.frozen 4
    have zz := k1c.lt
    have hz0 : w.heap.size < wc.heap.size := by omega
    go_upto_region 5 with fail
    rw [← HWc.out, ← hnb.out]
    clear HWc hnb hzq
    obtain ⟨⟨c0', c1', c2', c3', c4'⟩, cf, cz⟩ := Nr.cells HNR.out
    obtain ⟨g, cap, hD1, -, hBg, hgz, hgn, hg0, hfr, hgc⟩ := Nr.opens HNR.out (by omega)
    injection hD1 with hD1 _ hD1c
    subst hD1 hD1c
    obtain ⟨q0, q1, q2, q3, q4, q5, q6⟩ := hgc i x HX.out
    go_wp2_with fail
    refine (rrest_any _ s i x _ (HS.out.next HBc.out) HV.out HX.out HME.out).mono ?_
    rintro e wd ⟨rfl, hbd⟩
    rw [HT.out]
    have HNd := Lib.hid (HNR.out.next hbd)
    have HBd := Lib.hid (bNext HBc.out hbd)
    have k0d := k0c.next hbd
    have k1d := k1c.next hbd
    clear hbd HNR c0' c1' c2' c3' c4' cf cz hgz hg0 hfr hgc q0 q1 q2 q3 q4 q5 q6 k0c k1c
    clear p0 p1 p2 p3 p4 z0 z1 z2 z3 z4 g0 g1 g2 g3 g4 zz hz0
    obtain ⟨p0, p1, p2, p3, p4⟩ := smBox k0d
    have z0 := k1d.cell 0
    have z1 := k1d.cell 1
    have z2 := k1d.cell 2
    have z3 := k1d.cell 3
    have z4 := k1d.cell 4
    simp at z0 z1 z2 z3 z4
    have g0 := k1d.frozen 0
    have g1 := k1d.frozen 1
    have g2 := k1d.frozen 2
    have g3 := k1d.frozen 3
    have g4 := k1d.frozen 4
    have zz := k1d.lt
    have hz0 : w.heap.size < wd.heap.size := by omega
    obtain ⟨⟨c0', c1', c2', c3', c4'⟩, cf, cz⟩ := Nr.cells HNd.out
    obtain ⟨g', cap', hD1, -, -, hgz, -, hg0, hfr, hgc⟩ := Nr.opens HNd.out (by omega)
    injection hD1 with hD1 _ hD1c
    injection hD1 with hD1
    injection hD1 with hD1
    subst hD1 hD1c
    obtain ⟨q0, q1, q2, q3, q4, q5, q6⟩ := hgc i x HX.out
    have f3 := hfr (i * 7 + 3)
    have f6 := hfr (i * 7 + 6)
    have HG0 := Lib.hid hg0
    clear hgc hfr hg0
    by_cases h0 : 0 < t.size
    · obtain ⟨c, hc⟩ : ∃ c : Int, (t[0].toNat : Int) = c := ⟨_, rfl⟩
      have HC := Lib.hid hc
      have hb255 : t[0].toNat ≤ 255 := by have := t[0].toNat_lt; omega
      have hcge : 0 ≤ c := by omega
      have hwc : IntKind.i64.wrap (t[0].toNat : Int) = (t[0].toNat : Int) := by rw [IntKind.wrap_i64]; omega
      have hpt : (0 : Int) < (t.size : Int) := by omega
      have HR := Lib.hid (show getV s id = .ok ({ s with opn := s.opn.set i { x with pos := x.pos + 1 } }, c) by rw [HRG.out]; unfold getC; rw [dif_pos h0, HC.out]; unfold getG; rw [if_pos hcge])
      have hwr : IntKind.i64.wrap (x.pos + 1) = x.pos + 1 := by rw [IntKind.wrap_i64]; omega
      clear hc
      go_wp2_with fail
      have HN2 := Lib.hid (Nr.setG HNd.out HG0.out (i * 7 + 3) (.int .i64 (x.pos + 1)) (s.opn.set i { x with pos := x.pos + 1 }) (gCs_set HX.out 3 _ (by omega) rfl) (by simp))
      have HB2 := Lib.hid (HBd.out.setCell (p := ⟨g, i * 7 + 3, none⟩) (by simp; omega) (.int .i64 (x.pos + 1)))
      have k02 := k0d.far (p := ⟨g, i * 7 + 3, none⟩) (by simp; omega) (.int .i64 (x.pos + 1))
      have k12 := k1d.far (p := ⟨g, i * 7 + 3, none⟩) (by simp; omega) (.int .i64 (x.pos + 1))
      obtain ⟨w2, HW2⟩ : ∃ w2, Hid (w2 = wd.setCell ⟨g, i * 7 + 3, none⟩ (.int .i64 (x.pos + 1))) := ⟨_, rfl⟩
      rw [← HW2.out]
      rw [← HW2.out] at HN2 HB2 k02 k12
      clear HW2 c0' c1' c2' c3' c4' cf cz hgz q0 q1 q2 q3 q4 q5 q6 f3 f6 k0d k1d
      clear p0 p1 p2 p3 p4 z0 z1 z2 z3 z4 g0 g1 g2 g3 g4 zz hz0
      obtain ⟨p0, p1, p2, p3, p4⟩ := smBox k02
      have z0 := k12.cell 0
      have z1 := k12.cell 1
      have z2 := k12.cell 2
      have z3 := k12.cell 3
      have z4 := k12.cell 4
      simp at z0 z1 z2 z3 z4
      have g0 := k12.frozen 0
      have g1 := k12.frozen 1
      have g2 := k12.frozen 2
      have g3 := k12.frozen 3
      have g4 := k12.frozen 4
      have zz := k12.lt
      have hz0 : w.heap.size < w2.heap.size := by omega
      refine wp_region_N (fun w' => Blk w' nb 25 #[.slice D0 s.files.length e0, .slice (some ⟨g, 0, none⟩) s.opn.length e1, .int .i64 s.inp, .int .i64 s.out, .int .i64 s.nxt]) (fun j => decide (j < 5)) (by kernel_rfl) ?_
      have hS0 : (fun w' => Blk w' nb 25 #[.slice D0 s.files.length e0, .slice (some ⟨g, 0, none⟩) s.opn.length e1, .int .i64 s.inp, .int .i64 s.out, .int .i64 s.nxt]) w2 := HN2.out.box
      have hS0d : (fun w' => Blk w' nb 25 #[.slice D0 s.files.length e0, .slice (some ⟨g, 0, none⟩) s.opn.length e1, .int .i64 s.inp, .int .i64 s.out, .int .i64 s.nxt]) w2.drew := hS0
      refine wpAnyN_take (i := 0) (v := ?v1) rfl (by kernel_rfl) (by kernel_rfl) (by kernel_rfl) (by kernel_rfl) (fun _ _ _ h => h) (Or.inl ⟨by rfl, ?hy1⟩) (by assumption) ?_
      case hy1 => intro w hSw; obtain ⟨⟨y0, y1, y2, y3, y4⟩, -, -⟩ := (show (w.cell? ⟨nb, 0, none⟩ = some (.slice D0 s.files.length e0) ∧ w.cell? ⟨nb, 1, none⟩ = some (.slice (some ⟨g, 0, none⟩) s.opn.length e1) ∧ w.cell? ⟨nb, 2, none⟩ = some (.int .i64 s.inp) ∧ w.cell? ⟨nb, 3, none⟩ = some (.int .i64 s.out) ∧ w.cell? ⟨nb, 4, none⟩ = some (.int .i64 s.nxt)) ∧ True ∧ True from ⟨smBox' hSw, trivial, trivial⟩); go_simp; try with_reducible rfl
      simp only [Act.put, List.getElem_toArray, List.getElem_cons_zero, List.setIfInBounds_toArray, List.set_cons_zero, List.set_cons_succ]
      refine wpAnyN_take (i := 1) (v := ?v2) rfl (by kernel_rfl) (by kernel_rfl) (by kernel_rfl) (by kernel_rfl) (fun _ _ _ h => h) (Or.inl ⟨by rfl, ?hy2⟩) (by assumption) ?_
      case hy2 => intro w hSw; obtain ⟨⟨y0, y1, y2, y3, y4⟩, -, -⟩ := (show (w.cell? ⟨nb, 0, none⟩ = some (.slice D0 s.files.length e0) ∧ w.cell? ⟨nb, 1, none⟩ = some (.slice (some ⟨g, 0, none⟩) s.opn.length e1) ∧ w.cell? ⟨nb, 2, none⟩ = some (.int .i64 s.inp) ∧ w.cell? ⟨nb, 3, none⟩ = some (.int .i64 s.out) ∧ w.cell? ⟨nb, 4, none⟩ = some (.int .i64 s.nxt)) ∧ True ∧ True from ⟨smBox' hSw, trivial, trivial⟩); go_simp; try with_reducible rfl
      simp only [Act.put, List.getElem_toArray, List.getElem_cons_zero, List.getElem_cons_succ, List.setIfInBounds_toArray, List.set_cons_zero, List.set_cons_succ]
      refine wpAnyN_take (i := 2) (v := ?v3) rfl (by kernel_rfl) (by kernel_rfl) (by kernel_rfl) (by kernel_rfl) (fun _ _ _ h => h) (Or.inl ⟨by rfl, ?hy3⟩) (by assumption) ?_
      case hy3 => intro w hSw; obtain ⟨⟨y0, y1, y2, y3, y4⟩, -, -⟩ := (show (w.cell? ⟨nb, 0, none⟩ = some (.slice D0 s.files.length e0) ∧ w.cell? ⟨nb, 1, none⟩ = some (.slice (some ⟨g, 0, none⟩) s.opn.length e1) ∧ w.cell? ⟨nb, 2, none⟩ = some (.int .i64 s.inp) ∧ w.cell? ⟨nb, 3, none⟩ = some (.int .i64 s.out) ∧ w.cell? ⟨nb, 4, none⟩ = some (.int .i64 s.nxt)) ∧ True ∧ True from ⟨smBox' hSw, trivial, trivial⟩); go_simp; try with_reducible rfl
      simp only [Act.put, List.getElem_toArray, List.getElem_cons_zero, List.getElem_cons_succ, List.setIfInBounds_toArray, List.set_cons_zero, List.set_cons_succ]
      refine wpAnyN_take (i := 3) (v := ?v4) rfl (by kernel_rfl) (by kernel_rfl) (by kernel_rfl) (by kernel_rfl) (fun _ _ _ h => h) (Or.inl ⟨by rfl, ?hy4⟩) (by assumption) ?_
      case hy4 => intro w hSw; obtain ⟨⟨y0, y1, y2, y3, y4⟩, -, -⟩ := (show (w.cell? ⟨nb, 0, none⟩ = some (.slice D0 s.files.length e0) ∧ w.cell? ⟨nb, 1, none⟩ = some (.slice (some ⟨g, 0, none⟩) s.opn.length e1) ∧ w.cell? ⟨nb, 2, none⟩ = some (.int .i64 s.inp) ∧ w.cell? ⟨nb, 3, none⟩ = some (.int .i64 s.out) ∧ w.cell? ⟨nb, 4, none⟩ = some (.int .i64 s.nxt)) ∧ True ∧ True from ⟨smBox' hSw, trivial, trivial⟩); go_simp; try with_reducible rfl
      simp only [Act.put, List.getElem_toArray, List.getElem_cons_zero, List.getElem_cons_succ, List.setIfInBounds_toArray, List.set_cons_zero, List.set_cons_succ]
      refine wpAnyN_one (i := 4) (by kernel_rfl) rfl (fun K hK => ?_)
      simp only [List.getElem_toArray, List.getElem_cons_zero, List.getElem_cons_succ]
      go_simp
      refine hK _ _ (fun _ => by repeat (first | (with_reducible exact hS0) | (with_reducible refine Blk.drew1 ?_) | (with_reducible refine Blk.far ?_ ?_ _); rotate_left; focus (first | (simp; done) | (simp; omega)))) ?_
      refine wpAnyN_one (i := 5) (by kernel_rfl) rfl (fun K hK => ?_)
      simp only [List.getElem_toArray, List.getElem_cons_zero, List.getElem_cons_succ]
      go_simp
      refine hK _ _ (fun h => absurd h (by decide)) ?_
      refine wpAnyN_one (i := 6) (by kernel_rfl) rfl (fun K hK => ?_)
      simp only [List.getElem_toArray, List.getElem_cons_zero, List.getElem_cons_succ]
      go_simp
      refine hK _ _ (fun h => absurd h (by decide)) ?_
      refine wpAnyN_done (by kernel_rfl) ?_ _
      go_wp2_with fail
      (try rw [HC.out])
      refine bodyPost_ret (v := .tuple #[.agg #[.slice D0 s.files.length e0, .slice (some ⟨g, 0, none⟩) s.opn.length e1, .int .i64 (({ s with opn := s.opn.set i { x with pos := x.pos + 1 } } : Sm)).inp, .int .i64 (({ s with opn := s.opn.set i { x with pos := x.pos + 1 } } : Sm)).out, .int .i64 (({ s with opn := s.opn.set i { x with pos := x.pos + 1 } } : Sm)).nxt], .int .i64 (c), .int .i64 0]) (by simp only [results, Try.results57]; go_simp) rfl (RetG.good (HR.out) ?_ ?_)
      · refine (OwnS.stay (Nr.out (HN2.out)) fun b' hb' _ => ?_).base (by omega)
        (try rw [heap_drew])
        repeat rw [heap_setCell_other _ _ _ _ (by simp; omega)]
      · repeat (first | (with_reducible exact HB2.out) | (with_reducible refine bDrew1 ?_) | ((with_reducible refine Below.setCell ?_ ?_ _); rotate_left; focus (first | (simp; done) | (simp; omega))) | ((with_reducible refine Below.alloc ?_ ?_ _); rotate_left; focus (first | (simp; done) | (simp; omega))))
    · have hpt : ¬ (0 : Int) < (t.size : Int) := by omega
      have HRN := Lib.hid (show getV s id = .ok ({ s with opn := s.opn.set i { x with past := !(x.eof == 3) } }, -1) by rw [HRG.out]; unfold getC; rw [dif_neg h0]; unfold getG; rw [if_neg (by omega)])
      cases heo : x.eof == 3
      · have HR := Lib.hid (show getV s id = .ok ({ s with opn := s.opn.set i { x with past := true } }, -1) by rw [HRN.out, heo]; rfl)
        have hne3 : (x.eof != 3) = true := by simp [bne, heo]
        go_wp2_with fail
        refine bodyPost_ret (v := .tuple #[.agg #[.slice D0 s.files.length e0, .slice (some ⟨g, 0, none⟩) s.opn.length e1, .int .i64 (({ s with opn := s.opn.set i { x with past := true } } : Sm)).inp, .int .i64 (({ s with opn := s.opn.set i { x with past := true } } : Sm)).out, .int .i64 (({ s with opn := s.opn.set i { x with past := true } } : Sm)).nxt], .int .i64 (-1), .int .i64 0]) (by simp only [results, Try.results57]; go_simp) rfl (RetG.good (HR.out) ?_ ?_)
        · refine (OwnS.stay (Nr.out (Nr.setG HNd.out HG0.out (i * 7 + 6) (.bool true) (s.opn.set i { x with past := true }) (gCs_set HX.out 6 _ (by omega) rfl) (by simp))) fun b' hb' _ => ?_).base (by omega)
          (try rw [heap_drew])
          repeat rw [heap_setCell_other _ _ _ _ (by simp; omega)]
        · repeat (first | (with_reducible exact HBd.out) | (with_reducible refine bDrew1 ?_) | ((with_reducible refine Below.setCell ?_ ?_ _); rotate_left; focus (first | (simp; done) | (simp; omega))) | ((with_reducible refine Below.alloc ?_ ?_ _); rotate_left; focus (first | (simp; done) | (simp; omega))))
      · have HR := Lib.hid (show getV s id = .ok (s, -1) by
          have h1 := valid_past HV.out HX.out HME.out heo
          have h2 : ({ x with past := !(x.eof == 3) } : G) = x := by rw [heo]; show ({ x with past := false } : G) = x; rw [← h1]
          rw [HRN.out, h2, set_same HX.out])
        have hne3 : (x.eof != 3) = false := by simp [bne, heo]
        go_wp2_with fail
        refine bodyPost_ret (v := .tuple #[.agg #[.slice D0 s.files.length e0, .slice (some ⟨g, 0, none⟩) s.opn.length e1, .int .i64 (s).inp, .int .i64 (s).out, .int .i64 (s).nxt], .int .i64 (-1), .int .i64 0]) (by simp only [results, Try.results57]; go_simp) rfl (RetG.good (HR.out) ?_ ?_)
        · refine (OwnS.stay (Nr.out (HNd.out)) fun b' hb' _ => ?_).base (by omega)
          (try rw [heap_drew])
          repeat rw [heap_setCell_other _ _ _ _ (by simp; omega)]
        · repeat (first | (with_reducible exact HBd.out) | (with_reducible refine bDrew1 ?_) | ((with_reducible refine Below.setCell ?_ ?_ _); rotate_left; focus (first | (simp; done) | (simp; omega))) | ((with_reducible refine Below.alloc ?_ ?_ _); rotate_left; focus (first | (simp; done) | (simp; omega))))
end Go.Proofs.Ytklpghpfdeojeaa
