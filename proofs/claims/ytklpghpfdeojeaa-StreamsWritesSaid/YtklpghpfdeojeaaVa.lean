/-
  Walks: asked, input, rest, Rest, AtEnd, Text, Find of the reference.
-/
import Derived.Test.YtklpghpfdeojeaaUb
import Derived.Test.YtklpghpfdeojeaaSg
import Derived.BigQuiet
import Derived.Deep.QuietTactic
namespace Go.Proofs.Ytklpghpfdeojeaa
open Go.RowKit

set_option maxHeartbeats 4000000 in
theorem asked_any (v : Value) (s : Sm) (id : Int) (w : World) (hs : SmAt w w.heap.size v s) :
    Calls Try.prog 74 #[v, .int .i64 id] w fun e w' => e = .returned (.tuple #[.int .i64 (askI (askV s id true)), .int .i64 (errOf (askV s id true))]) ∧ Below w.heap.size w w' := by
  obtain ⟨A0, c0, A1, c1, rfl, hcap, h0, h1⟩ := hs
  have HS : Hid (SmAt w w.heap.size (smV A0 A1 c0 c1 s) s) := ⟨A0, c0, A1, c1, rfl, hcap, h0, h1⟩
  have HA := Lib.hid h0
  have HO := Lib.hid h1
  have hfl := h0.1.2
  have hol := h1.1.2
  clear h0 h1 hcap
  have HN := Lib.hid (bAlloc w (smO A0 A1 c0 c1 s))
  have HK : Hid (Blk (w.alloc (smO A0 A1 c0 c1 s)) w.heap.size 25 #[.slice A0 s.files.length c0, .slice A1 s.opn.length c1, .int .i64 s.inp, .int .i64 s.out, .int .i64 s.nxt]) := Blk.new _ _ _
  clear HA HO
  go_enter Try.func74, Try.ntmps74
  go_wp2_with fail
  refine (rvalid_any _ s _ (HS.out.next HN.out)).mono ?_
  rintro e w1 ⟨rfl, hb1⟩
  have HB1 := Lib.hid (bNext HN.out hb1)
  have HK1 := Lib.hid (HK.out.next hb1)
  obtain ⟨p0, p1, p2, p3, p4⟩ := smBox HK1.out
  have hz1 := HK1.out.lt
  clear hb1
  cases hv : validB s
  · have HR := Lib.hid (show askV s id true = .error 1 by simp [askV, hv])
    go_wp2_with fail
    go_ret2
    exact ⟨by rw [HR.out]; rfl, HB1.out⟩
  · have HV := Lib.hid hv
    go_wp2_with fail
    refine (rstream_any _ s id _ (HS.out.next HB1.out)).mono ?_
    rintro e w2 ⟨rfl, hb2⟩
    have HB2 := Lib.hid (bNext HB1.out hb2)
    clear hb2 hv
    cases hf : s.opn.findIdx? (idP id) with
    | none =>
      have HR := Lib.hid (show askV s id true = .error 4 by simp [askV, HV.out, hf])
      rw [idxI_none hf]
      clear hf
      go_wp2_with fail
      go_ret2
      exact ⟨by rw [HR.out]; rfl, HB2.out⟩
    | some i =>
      have HR := Lib.hid (show askV s id true = .ok i by simp [askV, HV.out, hf])
      rw [idxI_some hf]
      clear hf
      have hd : decide ((i : Int) < 0) = false := by simp
      go_wp2_with fail
      go_ret2
      exact ⟨by rw [HR.out]; rfl, HB2.out⟩
theorem asked_bad {s : Sm} {id : Int} {er : Int} (h : askV s id true = .error er) (v : Value) (w : World) (hs : SmAt w w.heap.size v s) :
    Calls Try.prog 74 #[v, .int .i64 id] w fun e w' => e = .returned (.tuple #[.int .i64 0, .int .i64 er]) ∧ Below w.heap.size w w' := by
  have := asked_any v s id w hs
  rw [h] at this
  exact this
theorem asked_good {s : Sm} {id : Int} {i : Nat} (h : askV s id true = .ok i) (v : Value) (w : World) (hs : SmAt w w.heap.size v s) :
    Calls Try.prog 74 #[v, .int .i64 id] w fun e w' => e = .returned (.tuple #[.int .i64 i, .int .i64 0]) ∧ Below w.heap.size w w' := by
  have := asked_any v s id w hs
  rw [h] at this
  exact this

set_option maxHeartbeats 4000000 in
theorem input_any (v : Value) (s : Sm) (id : Int) (w : World) (hs : SmAt w w.heap.size v s) :
    Calls Try.prog 75 #[v, .int .i64 id] w fun e w' => e = .returned (.tuple #[.int .i64 (askI (readV s id true)), .int .i64 (errOf (readV s id true))]) ∧ Below w.heap.size w w' := by
  obtain ⟨A0, c0, A1, c1, rfl, hcap, h0, h1⟩ := hs
  have HS : Hid (SmAt w w.heap.size (smV A0 A1 c0 c1 s) s) := ⟨A0, c0, A1, c1, rfl, hcap, h0, h1⟩
  have HA := Lib.hid h0
  have HO := Lib.hid h1
  have hfl := h0.1.2
  have hol := h1.1.2
  clear h0 h1 hcap
  cases ha : askV s id true with
  | error er =>
    have HR := Lib.hid (show readV s id true = .error er by simp [readV, ha])
    rcases askV_er ha with rfl | rfl
    · have HN := Lib.hid (bAlloc w (smO A0 A1 c0 c1 s))
      have HK : Hid (Blk (w.alloc (smO A0 A1 c0 c1 s)) w.heap.size 25 #[.slice A0 s.files.length c0, .slice A1 s.opn.length c1, .int .i64 s.inp, .int .i64 s.out, .int .i64 s.nxt]) := Blk.new _ _ _
      have HA2 := Lib.hid ha
      clear ha
      go_enter Try.func75, Try.ntmps75
      go_wp2_with fail
      refine (asked_bad HA2.out _ _ (HS.out.next HN.out)).mono ?_
      rintro e w1 ⟨rfl, hb1⟩
      have HB1 := Lib.hid (bNext HN.out hb1)
      have HK1 := Lib.hid (HK.out.next hb1)
      obtain ⟨p0, p1, p2, p3, p4⟩ := smBox HK1.out
      have hz1 := HK1.out.lt
      clear hb1
      go_wp2_with fail
      go_ret2
      exact ⟨by rw [HR.out]; rfl, HB1.out⟩
    · have HN := Lib.hid (bAlloc w (smO A0 A1 c0 c1 s))
      have HK : Hid (Blk (w.alloc (smO A0 A1 c0 c1 s)) w.heap.size 25 #[.slice A0 s.files.length c0, .slice A1 s.opn.length c1, .int .i64 s.inp, .int .i64 s.out, .int .i64 s.nxt]) := Blk.new _ _ _
      have HA2 := Lib.hid ha
      clear ha
      go_enter Try.func75, Try.ntmps75
      go_wp2_with fail
      refine (asked_bad HA2.out _ _ (HS.out.next HN.out)).mono ?_
      rintro e w1 ⟨rfl, hb1⟩
      have HB1 := Lib.hid (bNext HN.out hb1)
      have HK1 := Lib.hid (HK.out.next hb1)
      obtain ⟨p0, p1, p2, p3, p4⟩ := smBox HK1.out
      have hz1 := HK1.out.lt
      clear hb1
      go_wp2_with fail
      go_ret2
      exact ⟨by rw [HR.out]; rfl, HB1.out⟩
  | ok i =>
    obtain ⟨hv, -, hix, x, hx, hid⟩ := askV_ok ha
    have HRV := Lib.hid (show readV s id true = if x.mode != 1 || x.past && x.eof == 1 then .error 5 else .ok i by simp [readV, ha, hx])
    have HA2 := Lib.hid ha
    clear ha hid hix
    have hil := (List.getElem?_eq_some_iff.1 hx).1
    obtain ⟨k, hk1, hk2, hk3, hk4, hk5⟩ := valid_file hv hx
    have hkl := (List.getElem?_eq_some_iff.1 hk2).1
    obtain ⟨hvf, hvo, hvn1, hvn2, -, -⟩ := valid_head hv
    obtain ⟨b, off, x', rfl, hb, hx', hx4⟩ := HO.out.at hil
    rw [hx] at hx'
    injection hx' with hx'
    subst hx'
    obtain ⟨bf, offf, f', rfl, hbf, hf', hf4⟩ := HA.out.at hkl
    rw [hk2] at hf'
    injection hf' with hf'
    obtain ⟨f, hfd⟩ : ∃ f, fileOf s x = f := ⟨_, rfl⟩
    rw [hfd] at hf' hk2 hk3 hk4 hk5
    subst hf'
    have HFD := Lib.hid hfd
    have HX := Lib.hid hx
    have HV := Lib.hid hv
    have HX4 := Lib.hid hx4
    have HF4 := Lib.hid hf4
    have HK1x := Lib.hid hk1
    have HK2x := Lib.hid hk2
    have HK5x := Lib.hid hk5
    clear hk1 hk2 hk3 hk5 hv hx hfd hx4 hf4
    have hili : (i : Int) < (s.opn.length : Int) := by omega
    have hkli : (k : Int) < (s.files.length : Int) := by omega
    have HN := Lib.hid (bAlloc w (smO (some ⟨bf, offf, none⟩) (some ⟨b, off, none⟩) c0 c1 s))
    have HK : Hid (Blk (w.alloc (smO (some ⟨bf, offf, none⟩) (some ⟨b, off, none⟩) c0 c1 s)) w.heap.size 25 #[.slice (some ⟨bf, offf, none⟩) s.files.length c0, .slice (some ⟨b, off, none⟩) s.opn.length c1, .int .i64 s.inp, .int .i64 s.out, .int .i64 s.nxt]) := Blk.new _ _ _
    go_enter Try.func75, Try.ntmps75
    go_wp2_with fail
    refine (asked_good HA2.out _ _ (HS.out.next HN.out)).mono ?_
    rintro e w1 ⟨rfl, hb1⟩
    have HB1 := Lib.hid (bNext HN.out hb1)
    have HK1 := Lib.hid (HK.out.next hb1)
    obtain ⟨p0, p1, p2, p3, p4⟩ := smBox HK1.out
    have hz1 := HK1.out.lt
    clear hb1
    obtain ⟨q0, q1, q2, q3, q4, q5, q6⟩ := HX4.out.below hb HB1.out
    cases hm : x.mode != 1
    · cases hpa : x.past
      · rw [hpa] at q6
        have HR := Lib.hid (show readV s id true = .ok i by rw [HRV.out, hm, hpa]; rfl)
        go_wp2_with fail
        go_ret2
        exact ⟨by rw [HR.out]; rfl, HB1.out.alloc (by omega) _⟩
      · rw [hpa] at q6
        cases heo : x.eof == 1
        · have HR := Lib.hid (show readV s id true = .ok i by rw [HRV.out, hm, hpa, heo]; rfl)
          go_wp2_with fail
          go_ret2
          exact ⟨by rw [HR.out]; rfl, HB1.out.alloc (by omega) _⟩
        · have HR := Lib.hid (show readV s id true = .error 5 by rw [HRV.out, hm, hpa, heo]; rfl)
          go_wp2_with fail
          go_ret2
          exact ⟨by rw [HR.out]; rfl, HB1.out.alloc (by omega) _⟩
    · have HR := Lib.hid (show readV s id true = .error 5 by rw [HRV.out, hm]; rfl)
      go_wp2_with fail
      go_ret2
      exact ⟨by rw [HR.out]; rfl, HB1.out.alloc (by omega) _⟩
theorem input_bad {s : Sm} {id : Int} {er : Int} (h : readV s id true = .error er) (v : Value) (w : World) (hs : SmAt w w.heap.size v s) :
    Calls Try.prog 75 #[v, .int .i64 id] w fun e w' => e = .returned (.tuple #[.int .i64 0, .int .i64 er]) ∧ Below w.heap.size w w' := by
  have := input_any v s id w hs
  rw [h] at this
  exact this
theorem input_good {s : Sm} {id : Int} {i : Nat} (h : readV s id true = .ok i) (v : Value) (w : World) (hs : SmAt w w.heap.size v s) :
    Calls Try.prog 75 #[v, .int .i64 id] w fun e w' => e = .returned (.tuple #[.int .i64 i, .int .i64 0]) ∧ Below w.heap.size w w' := by
  have := input_any v s id w hs
  rw [h] at this
  exact this

set_option maxHeartbeats 4000000 in
theorem rrest_any (v : Value) (s : Sm) (i : Nat) (x : G) (w : World) (hs : SmAt w w.heap.size v s) (hv : validB s = true) (hx : s.opn[i]? = some x) (hm : x.mode = 1) :
    Calls Try.prog 76 #[v, .int .i64 i] w fun e w' => e = .returned (.string (restT s x)) ∧ Below w.heap.size w w' := by
  obtain ⟨A0, c0, A1, c1, rfl, hcap, h0, h1⟩ := hs
  have HS : Hid (SmAt w w.heap.size (smV A0 A1 c0 c1 s) s) := ⟨A0, c0, A1, c1, rfl, hcap, h0, h1⟩
  have HA := Lib.hid h0
  have HO := Lib.hid h1
  have hfl := h0.1.2
  have hol := h1.1.2
  clear h0 h1 hcap
  have hil := (List.getElem?_eq_some_iff.1 hx).1
  obtain ⟨k, hk1, hk2, hk3, hk4, hk5⟩ := valid_file hv hx
  have hkl := (List.getElem?_eq_some_iff.1 hk2).1
  obtain ⟨hvf, hvo, hvn1, hvn2, -, -⟩ := valid_head hv
  obtain ⟨b, off, x', rfl, hb, hx', hx4⟩ := HO.out.at hil
  rw [hx] at hx'
  injection hx' with hx'
  subst hx'
  obtain ⟨bf, offf, f', rfl, hbf, hf', hf4⟩ := HA.out.at hkl
  rw [hk2] at hf'
  injection hf' with hf'
  obtain ⟨f, hfd⟩ : ∃ f, fileOf s x = f := ⟨_, rfl⟩
  rw [hfd] at hf' hk2 hk3 hk4 hk5
  subst hf'
  have HFD := Lib.hid hfd
  have HX := Lib.hid hx
  have HV := Lib.hid hv
  have HX4 := Lib.hid hx4
  have HF4 := Lib.hid hf4
  have HK1x := Lib.hid hk1
  have HK2x := Lib.hid hk2
  have HK5x := Lib.hid hk5
  clear hk1 hk2 hk3 hk5 hv hx hfd hx4 hf4
  have hili : (i : Int) < (s.opn.length : Int) := by omega
  have hkli : (k : Int) < (s.files.length : Int) := by omega
  have HN := Lib.hid (bAlloc w (smO (some ⟨bf, offf, none⟩) (some ⟨b, off, none⟩) c0 c1 s))
  have HK : Hid (Blk (w.alloc (smO (some ⟨bf, offf, none⟩) (some ⟨b, off, none⟩) c0 c1 s)) w.heap.size 25 #[.slice (some ⟨bf, offf, none⟩) s.files.length c0, .slice (some ⟨b, off, none⟩) s.opn.length c1, .int .i64 s.inp, .int .i64 s.out, .int .i64 s.nxt]) := Blk.new _ _ _
  obtain ⟨hp1, hp2⟩ := HK5x.out hm
  have HRT := Lib.hid (show restT s x = f.text.extract x.pos.toNat f.text.size by simp only [restT, HFD.out])
  obtain ⟨W, HW⟩ : ∃ W, Hid (W = w.alloc (smO (some ⟨bf, offf, none⟩) (some ⟨b, off, none⟩) c0 c1 s)) := ⟨_, rfl⟩
  have HNW : Hid (Below w.heap.size w W) := by rw [HW.out]; exact HN.out
  have HKW := HK
  rw [← HW.out] at HKW
  obtain ⟨p0, p1, p2, p3, p4⟩ := smBox HKW.out
  obtain ⟨q0, q1, q2, q3, q4, q5, q6⟩ := HX4.out.below hb HNW.out
  obtain ⟨g0, g1⟩ := HF4.out.below hbf HNW.out
  have hcq := fun n => (rfile_any (some ⟨bf, offf, none⟩) s.files.length c0 s.files x.file (W.drewN n) (HA.out.next (bDrewN HNW.out n))).mono (fun _ _ h => And.intro h.1 h.2.symm)
  rw [HK1x.out] at hcq
  clear hm
  go_enter Try.func76, Try.ntmps76
  go_wp2_with fail
  rw [← HW.out]
  go_quiet (exact Calls.quiet_of_same (hcq _))
  go_wp2_with fail
  go_ret
  exact ⟨by rw [HRT.out]; rfl, bDrewN HNW.out _⟩

set_option maxHeartbeats 4000000 in
theorem Rest_any (v : Value) (s : Sm) (id : Int) (w : World) (hs : SmAt w w.heap.size v s) :
    Calls Try.prog 59 #[v, .int .i64 id] w fun e w' => e = .returned (.tuple #[.string (restV s id true), .int .i64 (errOf (readV s id true))]) ∧ Below w.heap.size w w' := by
  obtain ⟨A0, c0, A1, c1, rfl, hcap, h0, h1⟩ := hs
  have HS : Hid (SmAt w w.heap.size (smV A0 A1 c0 c1 s) s) := ⟨A0, c0, A1, c1, rfl, hcap, h0, h1⟩
  have HA := Lib.hid h0
  have HO := Lib.hid h1
  have hfl := h0.1.2
  have hol := h1.1.2
  clear h0 h1 hcap
  cases ha : readV s id true with
  | error er =>
    have HR := Lib.hid (show restV s id true = .empty by simp [restV, ha])
    rcases readV_er ha with rfl | rfl | rfl
    · have HN := Lib.hid (bAlloc w (smO A0 A1 c0 c1 s))
      have HK : Hid (Blk (w.alloc (smO A0 A1 c0 c1 s)) w.heap.size 25 #[.slice A0 s.files.length c0, .slice A1 s.opn.length c1, .int .i64 s.inp, .int .i64 s.out, .int .i64 s.nxt]) := Blk.new _ _ _
      have HA2 := Lib.hid ha
      clear ha
      go_enter Try.func59, Try.ntmps59
      go_wp2_with fail
      refine (input_bad HA2.out _ _ (HS.out.next HN.out)).mono ?_
      rintro e w1 ⟨rfl, hb1⟩
      have HB1 := Lib.hid (bNext HN.out hb1)
      have HK1 := Lib.hid (HK.out.next hb1)
      obtain ⟨p0, p1, p2, p3, p4⟩ := smBox HK1.out
      have hz1 := HK1.out.lt
      clear hb1
      go_wp2_with fail
      go_ret2
      exact ⟨by rw [HR.out]; rfl, HB1.out⟩
    · have HN := Lib.hid (bAlloc w (smO A0 A1 c0 c1 s))
      have HK : Hid (Blk (w.alloc (smO A0 A1 c0 c1 s)) w.heap.size 25 #[.slice A0 s.files.length c0, .slice A1 s.opn.length c1, .int .i64 s.inp, .int .i64 s.out, .int .i64 s.nxt]) := Blk.new _ _ _
      have HA2 := Lib.hid ha
      clear ha
      go_enter Try.func59, Try.ntmps59
      go_wp2_with fail
      refine (input_bad HA2.out _ _ (HS.out.next HN.out)).mono ?_
      rintro e w1 ⟨rfl, hb1⟩
      have HB1 := Lib.hid (bNext HN.out hb1)
      have HK1 := Lib.hid (HK.out.next hb1)
      obtain ⟨p0, p1, p2, p3, p4⟩ := smBox HK1.out
      have hz1 := HK1.out.lt
      clear hb1
      go_wp2_with fail
      go_ret2
      exact ⟨by rw [HR.out]; rfl, HB1.out⟩
    · have HN := Lib.hid (bAlloc w (smO A0 A1 c0 c1 s))
      have HK : Hid (Blk (w.alloc (smO A0 A1 c0 c1 s)) w.heap.size 25 #[.slice A0 s.files.length c0, .slice A1 s.opn.length c1, .int .i64 s.inp, .int .i64 s.out, .int .i64 s.nxt]) := Blk.new _ _ _
      have HA2 := Lib.hid ha
      clear ha
      go_enter Try.func59, Try.ntmps59
      go_wp2_with fail
      refine (input_bad HA2.out _ _ (HS.out.next HN.out)).mono ?_
      rintro e w1 ⟨rfl, hb1⟩
      have HB1 := Lib.hid (bNext HN.out hb1)
      have HK1 := Lib.hid (HK.out.next hb1)
      obtain ⟨p0, p1, p2, p3, p4⟩ := smBox HK1.out
      have hz1 := HK1.out.lt
      clear hb1
      go_wp2_with fail
      go_ret2
      exact ⟨by rw [HR.out]; rfl, HB1.out⟩
  | ok i =>
    obtain ⟨hask, x, hx, hid, hmode, -⟩ := readV_ok ha
    obtain ⟨hv, hok, -, -⟩ := askV_ok hask
    have HR := Lib.hid (show restV s id true = restT s x by simp [restV, ha, hx])
    have HA2 := Lib.hid ha
    clear hask hok ha
    have HN := Lib.hid (bAlloc w (smO A0 A1 c0 c1 s))
    have HK : Hid (Blk (w.alloc (smO A0 A1 c0 c1 s)) w.heap.size 25 #[.slice A0 s.files.length c0, .slice A1 s.opn.length c1, .int .i64 s.inp, .int .i64 s.out, .int .i64 s.nxt]) := Blk.new _ _ _
    go_enter Try.func59, Try.ntmps59
    go_wp2_with fail
    refine (input_good HA2.out _ _ (HS.out.next HN.out)).mono ?_
    rintro e w1 ⟨rfl, hb1⟩
    have HB1 := Lib.hid (bNext HN.out hb1)
    have HK1 := Lib.hid (HK.out.next hb1)
    obtain ⟨p0, p1, p2, p3, p4⟩ := smBox HK1.out
    have hz1 := HK1.out.lt
    clear hb1
    have HX := Lib.hid hx
    have HV := Lib.hid hv
    have HM := Lib.hid hmode
    clear hx hv hid hmode
    go_wp2_with fail
    refine (rrest_any _ s i x _ (HS.out.next HB1.out) HV.out HX.out HM.out).mono ?_
    rintro e w2 ⟨rfl, hb2⟩
    have HB2 := Lib.hid (bNext HB1.out hb2)
    clear hb2
    go_wp2_with fail
    go_ret2
    exact ⟨by rw [HR.out]; rfl, HB2.out⟩

set_option maxHeartbeats 4000000 in
theorem AtEnd_any (v : Value) (s : Sm) (id : Int) (w : World) (hs : SmAt w w.heap.size v s) :
    Calls Try.prog 62 #[v, .int .i64 id] w fun e w' => e = .returned (.tuple #[.bool (boolOf (atEndV s id)), .int .i64 (errOf (atEndV s id))]) ∧ Below w.heap.size w w' := by
  obtain ⟨A0, c0, A1, c1, rfl, hcap, h0, h1⟩ := hs
  have HS : Hid (SmAt w w.heap.size (smV A0 A1 c0 c1 s) s) := ⟨A0, c0, A1, c1, rfl, hcap, h0, h1⟩
  have HA := Lib.hid h0
  have HO := Lib.hid h1
  have hfl := h0.1.2
  have hol := h1.1.2
  clear h0 h1 hcap
  cases ha : askV s id true with
  | error er =>
    have HR := Lib.hid (show atEndV s id = .error er by simp [atEndV, ha])
    rcases askV_er ha with rfl | rfl
    · have HN := Lib.hid (bAlloc w (smO A0 A1 c0 c1 s))
      have HK : Hid (Blk (w.alloc (smO A0 A1 c0 c1 s)) w.heap.size 25 #[.slice A0 s.files.length c0, .slice A1 s.opn.length c1, .int .i64 s.inp, .int .i64 s.out, .int .i64 s.nxt]) := Blk.new _ _ _
      have HA2 := Lib.hid ha
      clear ha
      go_enter Try.func62, Try.ntmps62
      go_wp2_with fail
      refine (asked_bad HA2.out _ _ (HS.out.next HN.out)).mono ?_
      rintro e w1 ⟨rfl, hb1⟩
      have HB1 := Lib.hid (bNext HN.out hb1)
      have HK1 := Lib.hid (HK.out.next hb1)
      obtain ⟨p0, p1, p2, p3, p4⟩ := smBox HK1.out
      have hz1 := HK1.out.lt
      clear hb1
      go_wp2_with fail
      go_ret2
      exact ⟨by rw [HR.out]; rfl, HB1.out⟩
    · have HN := Lib.hid (bAlloc w (smO A0 A1 c0 c1 s))
      have HK : Hid (Blk (w.alloc (smO A0 A1 c0 c1 s)) w.heap.size 25 #[.slice A0 s.files.length c0, .slice A1 s.opn.length c1, .int .i64 s.inp, .int .i64 s.out, .int .i64 s.nxt]) := Blk.new _ _ _
      have HA2 := Lib.hid ha
      clear ha
      go_enter Try.func62, Try.ntmps62
      go_wp2_with fail
      refine (asked_bad HA2.out _ _ (HS.out.next HN.out)).mono ?_
      rintro e w1 ⟨rfl, hb1⟩
      have HB1 := Lib.hid (bNext HN.out hb1)
      have HK1 := Lib.hid (HK.out.next hb1)
      obtain ⟨p0, p1, p2, p3, p4⟩ := smBox HK1.out
      have hz1 := HK1.out.lt
      clear hb1
      go_wp2_with fail
      go_ret2
      exact ⟨by rw [HR.out]; rfl, HB1.out⟩
  | ok i =>
    obtain ⟨hv, -, hix, x, hx, hid⟩ := askV_ok ha
    have HRA := Lib.hid (show atEndV s id = if x.mode != 1 then .error 5 else .ok (x.pos == (fileOf s x).text.size) by simp [atEndV, ha, hx])
    have HA2 := Lib.hid ha
    clear ha hid hix
    have hil := (List.getElem?_eq_some_iff.1 hx).1
    obtain ⟨k, hk1, hk2, hk3, hk4, hk5⟩ := valid_file hv hx
    have hkl := (List.getElem?_eq_some_iff.1 hk2).1
    obtain ⟨hvf, hvo, hvn1, hvn2, -, -⟩ := valid_head hv
    obtain ⟨b, off, x', rfl, hb, hx', hx4⟩ := HO.out.at hil
    rw [hx] at hx'
    injection hx' with hx'
    subst hx'
    obtain ⟨bf, offf, f', rfl, hbf, hf', hf4⟩ := HA.out.at hkl
    rw [hk2] at hf'
    injection hf' with hf'
    obtain ⟨f, hfd⟩ : ∃ f, fileOf s x = f := ⟨_, rfl⟩
    rw [hfd] at hf' hk2 hk3 hk4 hk5
    subst hf'
    have HFD := Lib.hid hfd
    have HX := Lib.hid hx
    have HV := Lib.hid hv
    have HX4 := Lib.hid hx4
    have HF4 := Lib.hid hf4
    have HK1x := Lib.hid hk1
    have HK2x := Lib.hid hk2
    have HK5x := Lib.hid hk5
    clear hk1 hk2 hk3 hk5 hv hx hfd hx4 hf4
    have hili : (i : Int) < (s.opn.length : Int) := by omega
    have hkli : (k : Int) < (s.files.length : Int) := by omega
    have HN := Lib.hid (bAlloc w (smO (some ⟨bf, offf, none⟩) (some ⟨b, off, none⟩) c0 c1 s))
    have HK : Hid (Blk (w.alloc (smO (some ⟨bf, offf, none⟩) (some ⟨b, off, none⟩) c0 c1 s)) w.heap.size 25 #[.slice (some ⟨bf, offf, none⟩) s.files.length c0, .slice (some ⟨b, off, none⟩) s.opn.length c1, .int .i64 s.inp, .int .i64 s.out, .int .i64 s.nxt]) := Blk.new _ _ _
    rw [HFD.out] at HRA
    go_enter Try.func62, Try.ntmps62
    go_wp2_with fail
    refine (asked_good HA2.out _ _ (HS.out.next HN.out)).mono ?_
    rintro e w1 ⟨rfl, hb1⟩
    have HB1 := Lib.hid (bNext HN.out hb1)
    have HK1 := Lib.hid (HK.out.next hb1)
    obtain ⟨p0, p1, p2, p3, p4⟩ := smBox HK1.out
    have hz1 := HK1.out.lt
    clear hb1
    obtain ⟨q0, q1, q2, q3, q4, q5, q6⟩ := HX4.out.below hb HB1.out
    cases hm : x.mode != 1
    · have hme : x.mode = 1 := by simpa using hm
      have HR := Lib.hid (show atEndV s id = .ok (x.pos == f.text.size) by rw [HRA.out, hm]; rfl)
      have hp := HK5x.out hme
      have hrs : ((restT s x).size : Int) = f.text.size - x.pos := by have h := restT_size (s := s) (x := x) (by rw [HFD.out]; exact hp); rw [HFD.out] at h; exact h
      have HRS := Lib.hid hrs
      have HME := Lib.hid hme
      clear hme hrs hp
      go_wp2_with fail
      refine (rrest_any _ s i x _ (HS.out.next HB1.out) HV.out HX.out HME.out).mono ?_
      rintro e w2 ⟨rfl, hb2⟩
      have HB2 := Lib.hid (bNext HB1.out hb2)
      clear hb2
      go_wp2_with fail
      go_ret2
      refine ⟨?_, HB2.out⟩
      rw [HR.out]
      have hq : (((restT s x).size : Int) == 0) = (x.pos == (f.text.size : Int)) := by
        rw [HRS.out, Bool.eq_iff_iff]
        simp
        omega
      first | (rw [hq]; rfl) | (simp only [boolOf, errOf, ← hq]; simp)
    · have HR := Lib.hid (show atEndV s id = .error 5 by rw [HRA.out, hm]; rfl)
      have HM := Lib.hid hm
      go_wp2_with fail
      go_ret2
      exact ⟨by rw [HR.out]; rfl, HB1.out⟩

set_option maxHeartbeats 4000000 in
theorem Text_any (v : Value) (s : Sm) (name : ByteArray) (w : World) (hs : SmAt w w.heap.size v s) :
    Calls Try.prog 65 #[v, .string name] w fun e w' => e = .returned (.tuple #[.string ((textV s name).getD .empty), .bool (textV s name).isSome]) ∧ Below w.heap.size w w' := by
  obtain ⟨A0, c0, A1, c1, rfl, hcap, h0, h1⟩ := hs
  have HS : Hid (SmAt w w.heap.size (smV A0 A1 c0 c1 s) s) := ⟨A0, c0, A1, c1, rfl, hcap, h0, h1⟩
  have HA := Lib.hid h0
  have HO := Lib.hid h1
  have hfl := h0.1.2
  have hol := h1.1.2
  clear h0 h1 hcap
  have HN := Lib.hid (bAlloc w (smO A0 A1 c0 c1 s))
  have HK : Hid (Blk (w.alloc (smO A0 A1 c0 c1 s)) w.heap.size 25 #[.slice A0 s.files.length c0, .slice A1 s.opn.length c1, .int .i64 s.inp, .int .i64 s.out, .int .i64 s.nxt]) := Blk.new _ _ _
  go_enter Try.func65, Try.ntmps65
  go_wp2_with fail
  refine (rvalid_any _ s _ (HS.out.next HN.out)).mono ?_
  rintro e w1 ⟨rfl, hb1⟩
  have HB1 := Lib.hid (bNext HN.out hb1)
  have HK1 := Lib.hid (HK.out.next hb1)
  obtain ⟨p0, p1, p2, p3, p4⟩ := smBox HK1.out
  have hz1 := HK1.out.lt
  clear hb1
  cases hv : validB s
  · have HR := Lib.hid (show textV s name = none by simp [textV, hv])
    go_wp2_with fail
    go_ret2
    exact ⟨by rw [HR.out]; rfl, HB1.out⟩
  · have HV := Lib.hid hv
    go_wp2_with fail
    refine (rfile_any A0 s.files.length c0 s.files name _ (HA.out.next HB1.out)).mono ?_
    rintro e w2 ⟨rfl, rfl⟩
    cases hf : s.files.findIdx? (fileP name) with
    | none =>
      have HR := Lib.hid (show textV s name = none by simp [textV, HV.out, hf])
      rw [idxI_none hf]
      clear hf hv
      go_wp2_with fail
      go_ret2
      exact ⟨by rw [HR.out]; rfl, HB1.out⟩
    | some i =>
      obtain ⟨hil, -, -⟩ := List.findIdx?_eq_some_iff_getElem.1 hf
      have hx : s.files[i]? = some s.files[i] := List.getElem?_eq_getElem hil
      have HR := Lib.hid (show textV s name = some s.files[i].text by simp [textV, HV.out, hf, hx])
      obtain ⟨x, hxe⟩ : ∃ x, s.files[i] = x := ⟨_, rfl⟩
      rw [hxe] at HR hx
      have HIX := Lib.hid (idxI_some hf)
      rw [idxI_some hf]
      obtain ⟨b, off, x', rfl, hb, hx', hx4⟩ := HA.out.at hil
      rw [hx] at hx'
      injection hx' with hx'
      subst hx'
      obtain ⟨q0, q1⟩ := hx4.below hb HB1.out
      have hd : decide ((i : Int) < 0) = false := by simp
      have hili : (i : Int) < (s.files.length : Int) := by omega
      have hcq := fun n => (rfile_any (some ⟨b, off, none⟩) s.files.length c0 s.files name (w1.drewN n) (HA.out.next (bDrewN HB1.out n))).mono (fun _ _ h => And.intro h.1 h.2.symm)
      rw [HIX.out] at hcq
      clear hf hv hx hxe hx4
      go_wp2_with fail
      go_quiet (exact Calls.quiet_of_same (hcq _))
      go_wp2_with fail
      go_ret2
      exact ⟨by rw [HR.out]; rfl, bDrewN HB1.out _⟩

set_option maxHeartbeats 4000000 in
theorem Find_any (v : Value) (s : Sm) (name : ByteArray) (w : World) (hs : SmAt w w.heap.size v s) :
    Calls Try.prog 64 #[v, .string name] w fun e w' => e = .returned (.tuple #[.int .i64 ((findV s name).getD 0), .bool (findV s name).isSome]) ∧ Below w.heap.size w w' := by
  obtain ⟨A0, c0, A1, c1, rfl, hcap, h0, h1⟩ := hs
  have HS : Hid (SmAt w w.heap.size (smV A0 A1 c0 c1 s) s) := ⟨A0, c0, A1, c1, rfl, hcap, h0, h1⟩
  have HA := Lib.hid h0
  have HO := Lib.hid h1
  have hfl := h0.1.2
  have hol := h1.1.2
  clear h0 h1 hcap
  have HN := Lib.hid (bAlloc w (smO A0 A1 c0 c1 s))
  have HK : Hid (Blk (w.alloc (smO A0 A1 c0 c1 s)) w.heap.size 25 #[.slice A0 s.files.length c0, .slice A1 s.opn.length c1, .int .i64 s.inp, .int .i64 s.out, .int .i64 s.nxt]) := Blk.new _ _ _
  go_enter Try.func64, Try.ntmps64
  go_wp2_with fail
  refine (rvalid_any _ s _ (HS.out.next HN.out)).mono ?_
  rintro e w1 ⟨rfl, hb1⟩
  have HB1 := Lib.hid (bNext HN.out hb1)
  have HK1 := Lib.hid (HK.out.next hb1)
  obtain ⟨p0, p1, p2, p3, p4⟩ := smBox HK1.out
  have hz1 := HK1.out.lt
  clear hb1
  cases hv : validB s
  · have HR := Lib.hid (show findV s name = none by simp [findV, hv])
    go_wp2_with fail
    go_ret2
    exact ⟨by rw [HR.out]; rfl, HB1.out⟩
  · cases he : name.toList.isEmpty
    · have he2 : (!name.toList.isEmpty) = true := by rw [he]; rfl
      have HV := Lib.hid hv
      have HE := Lib.hid he
      clear hv
      go_wp2_with fail
      go_loop [6] (fun i => ∃ k : Nat, k ≤ s.opn.length ∧ i = .int .i64 k ∧ Hid (∀ (j : Nat) z, j < k → s.opn[j]? = some z → aliasP name z = false)) (fun i => s.opn.length - (intOf i).toNat)
      case atStart => exact ⟨0, by omega, rfl, Lib.hid fun j z h => absurd h (by omega)⟩
      case round =>
        obtain ⟨k, hk, rfl, HP⟩ := hrel
        by_cases hlt : k < s.opn.length
        · obtain ⟨b, off, x, rfl, hb, hx, hx4⟩ := HO.out.at hlt
          obtain ⟨q0, q1, q2, q3, q4, q5, q6⟩ := hx4.below hb HB1.out
          have HX := Lib.hid hx
          have hkli : (k : Int) < (s.opn.length : Int) := by omega
          clear hx hx4
          cases hpx : x.alias_.toList == name.toList
          · have HQ := Lib.hid hpx
            go_wp2_with fail
            exact ⟨⟨k + 1, by omega, by go_num, Lib.hid fun j z hj hz => by
              rcases Nat.lt_or_ge j k with h | h
              · exact HP.out j z h hz
              · rw [show j = k by omega, HX.out] at hz
                injection hz with hz
                rw [← hz]; exact HQ.out⟩, by simp [intOf]; omega⟩
          · have hfi : s.opn.findIdx? (aliasP name) = some k := by
              obtain ⟨hl2, hx2⟩ := List.getElem?_eq_some_iff.1 HX.out
              exact List.findIdx?_eq_some_iff_getElem.2 ⟨hl2, by rw [hx2]; exact hpx, fun j hj => by simpa using HP.out j _ hj (List.getElem?_eq_getElem (by omega))⟩
            have HR := Lib.hid (show findV s name = some x.id by simp [findV, HV.out, HE.out, hfi, HX.out])
            clear hfi
            go_wp2_with fail
            go_ret2
            exact ⟨by rw [HR.out]; rfl, HB1.out⟩
        · have hfi : s.opn.findIdx? (aliasP name) = none := List.findIdx?_eq_none_iff.2 fun z hz => by
            obtain ⟨j, hj⟩ := List.mem_iff_getElem?.1 hz
            exact HP.out j z (by have := (List.getElem?_eq_some_iff.1 hj).1; omega) hj
          have HR := Lib.hid (show findV s name = none by simp [findV, HV.out, HE.out, hfi])
          clear hfi
          go_wp2_with fail
          go_ret2
          exact ⟨by rw [HR.out]; rfl, HB1.out⟩
    · have he2 : (!name.toList.isEmpty) = false := by rw [he]; rfl
      have HR := Lib.hid (show findV s name = none by simp [findV, he])
      go_wp2_with fail
      go_ret2
      exact ⟨by rw [HR.out]; rfl, HB1.out⟩
end Go.Proofs.Ytklpghpfdeojeaa
