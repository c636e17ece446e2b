/-
  Walks: opened, readable, AtEnd, Rest, Find, Text of the program.
-/
import Derived.Test.YtklpghpfdeojeaaUa
namespace Go.Proofs.Ytklpghpfdeojeaa
open Go.RowKit

set_option maxHeartbeats 400000 in
theorem opened_any (v : Value) (s : Sm) (id : Int) (ok : Bool) (w : World) (hs : SmAt w w.heap.size v s) :
    Calls Try.prog 46 #[v, .int .i64 id, .bool ok] w fun e w' => e = .returned (.tuple #[.int .i64 (askI (askV s id ok)), .int .i64 (errOf (askV s id ok))]) ∧ Below w.heap.size w w' := by
  obtain ⟨A0, c0, A1, c1, rfl, hcap, h0, h1⟩ := hs
  have HS : Hid (SmAt w w.heap.size (smV A0 A1 c0 c1 s) s) := ⟨A0, c0, A1, c1, rfl, hcap, h0, h1⟩
  have HN := Lib.hid (bAlloc w (smO A0 A1 c0 c1 s))
  have hk : Blk (w.alloc (smO A0 A1 c0 c1 s)) w.heap.size 25 #[.slice A0 s.files.length c0, .slice A1 s.opn.length c1, .int .i64 s.inp, .int .i64 s.out, .int .i64 s.nxt] := Blk.new _ _ _
  have HK := Lib.hid hk
  clear h0 h1 hcap hk
  go_enter Try.func46, Try.ntmps46
  go_wp2_with fail
  refine (valid_any _ s _ (HS.out.next HN.out)).mono ?_
  rintro e w1 ⟨rfl, hb1⟩
  have HB1 := Lib.hid (bNext HN.out hb1)
  have HK1 := Lib.hid (HK.out.next hb1)
  obtain ⟨p0, p1, p2, p3, p4⟩ := smBox HK1.out
  clear hb1
  cases hv : validB s
  · have HR := Lib.hid (show askV s id ok = .error 1 by simp [askV, hv])
    go_wp2_with fail
    go_ret2
    exact ⟨by rw [HR.out]; rfl, HB1.out⟩
  · cases ok
    · have HR := Lib.hid (show askV s id false = .error 1 by simp [askV])
      go_wp2_with fail
      go_ret2
      exact ⟨by rw [HR.out]; rfl, HB1.out⟩
    · have HV := Lib.hid hv
      go_wp2_with fail
      refine (stream_any _ s id _ (HS.out.next HB1.out)).mono ?_
      rintro e w2 ⟨rfl, hb2⟩
      have HB2 := Lib.hid (bNext HB1.out hb2)
      clear hb2 hv
      cases hf : s.opn.findIdx? (idP id) with
      | none =>
        have HR := Lib.hid (show askV s id true = .error 4 by simp [askV, HV.out, hf])
        rw [idxI_none hf]
        clear hf
        go_wp2_with fail
        go_ret2
        exact ⟨by rw [HR.out]; rfl, HB2.out⟩
      | some i =>
        have HR := Lib.hid (show askV s id true = .ok i by simp [askV, HV.out, hf])
        rw [idxI_some hf]
        clear hf
        have hd : decide ((i : Int) < 0) = false := by simp
        go_wp2_with fail
        go_ret2
        exact ⟨by rw [HR.out]; rfl, HB2.out⟩
theorem opened_bad {s : Sm} {id : Int} {ok : Bool} {er : Int} (h : askV s id ok = .error er) (v : Value) (w : World) (hs : SmAt w w.heap.size v s) :
    Calls Try.prog 46 #[v, .int .i64 id, .bool ok] w fun e w' => e = .returned (.tuple #[.int .i64 0, .int .i64 er]) ∧ Below w.heap.size w w' := by
  have := opened_any v s id ok w hs
  rw [h] at this
  exact this
theorem opened_good {s : Sm} {id : Int} {ok : Bool} {i : Nat} (h : askV s id ok = .ok i) (v : Value) (w : World) (hs : SmAt w w.heap.size v s) :
    Calls Try.prog 46 #[v, .int .i64 id, .bool ok] w fun e w' => e = .returned (.tuple #[.int .i64 i, .int .i64 0]) ∧ Below w.heap.size w w' := by
  have := opened_any v s id ok w hs
  rw [h] at this
  exact this

/-- the boxes of a state and of a stream -/
def SG (A0 A1 : Option Addr) (c0 c1 : Nat) (s : Sm) (b : Nat) (x : G) (u : Value) (bx : Nat) (w' : World) : Prop :=
  Blk w' b 25 #[.slice A0 s.files.length c0, .slice A1 s.opn.length c1, .int .i64 s.inp, .int .i64 s.out, .int .i64 s.nxt] ∧ Blk w' bx 52 #[.int .i64 x.id, .string x.file, .int .i64 x.mode, .int .i64 x.pos, .string x.alias_, .int .i64 x.eof, u]
theorem SG.next {A0 A1 : Option Addr} {c0 c1 : Nat} {s : Sm} {b : Nat} {x : G} {u : Value} {bx : Nat} {w w' : World} (h : SG A0 A1 c0 c1 s b x u bx w) (hb : Below w.heap.size w w') : SG A0 A1 c0 c1 s b x u bx w' := ⟨h.1.next hb, h.2.next hb⟩

set_option maxHeartbeats 1000000 in
theorem readable_any (v : Value) (s : Sm) (id : Int) (ok : Bool) (w : World) (hs : SmAt w w.heap.size v s) :
    Calls Try.prog 47 #[v, .int .i64 id, .bool ok] w fun e w' => e = .returned (.tuple #[.int .i64 (askI (readV s id ok)), .string (restV s id ok), .int .i64 (errOf (readV s id ok))]) ∧ Below w.heap.size w w' := by
  obtain ⟨A0, c0, A1, c1, rfl, hcap, h0, h1⟩ := hs
  have HS : Hid (SmAt w w.heap.size (smV A0 A1 c0 c1 s) s) := ⟨A0, c0, A1, c1, rfl, hcap, h0, h1⟩
  have HA := Lib.hid h0
  have HO := Lib.hid h1
  have hfl := h0.1.2
  have hol := h1.1.2
  clear h0 h1 hcap
  cases ha : askV s id ok with
  | error er =>
    have HR := Lib.hid (show readV s id ok = .error er by simp [readV, ha])
    have HN := Lib.hid (bAlloc w (smO A0 A1 c0 c1 s))
    have HK : Hid (Blk (w.alloc (smO A0 A1 c0 c1 s)) w.heap.size 25 #[.slice A0 s.files.length c0, .slice A1 s.opn.length c1, .int .i64 s.inp, .int .i64 s.out, .int .i64 s.nxt]) := Blk.new _ _ _
    rcases askV_err ha with ⟨rfl, -⟩ | ⟨rfl, -⟩
    · have HA2 := Lib.hid ha
      clear ha
      go_enter Try.func47, Try.ntmps47
      go_wp2_with fail
      refine (opened_bad HA2.out _ _ (HS.out.next HN.out)).mono ?_
      rintro e w1 ⟨rfl, hb1⟩
      have HB1 := Lib.hid (bNext HN.out hb1)
      have HK1 := Lib.hid (HK.out.next hb1)
      obtain ⟨p0, p1, p2, p3, p4⟩ := smBox HK1.out
      have hz1 := HK1.out.lt
      clear hb1
      go_wp2_with fail
      go_ret3
      exact ⟨by simp only [restV, HR.out]; rfl, HB1.out⟩
    · have HA2 := Lib.hid ha
      clear ha
      go_enter Try.func47, Try.ntmps47
      go_wp2_with fail
      refine (opened_bad HA2.out _ _ (HS.out.next HN.out)).mono ?_
      rintro e w1 ⟨rfl, hb1⟩
      have HB1 := Lib.hid (bNext HN.out hb1)
      have HK1 := Lib.hid (HK.out.next hb1)
      obtain ⟨p0, p1, p2, p3, p4⟩ := smBox HK1.out
      have hz1 := HK1.out.lt
      clear hb1
      go_wp2_with fail
      go_ret3
      exact ⟨by simp only [restV, HR.out]; rfl, HB1.out⟩
  | ok i =>
    obtain ⟨hv, -, hix, x, hx, hid⟩ := askV_ok ha
    have HRV := Lib.hid (show readV s id ok = if x.mode != 1 || x.past && x.eof == 1 then .error 5 else .ok i by simp [readV, ha, hx])
    have HA2 := Lib.hid ha
    clear ha hid hix
    have hil := (List.getElem?_eq_some_iff.1 hx).1
    obtain ⟨k, hk1, hk2, hk3, hk4, hk5⟩ := valid_file hv hx
    have hkl := (List.getElem?_eq_some_iff.1 hk2).1
    obtain ⟨b, off, x', rfl, hb, hx', hx4⟩ := HO.out.at hil
    rw [hx] at hx'
    injection hx' with hx'
    subst hx'
    obtain ⟨bf, offf, f', rfl, hbf, hf', hf4⟩ := HA.out.at hkl
    rw [hk2] at hf'
    injection hf' with hf'
    obtain ⟨f, hfd⟩ : ∃ f, fileOf s x = f := ⟨_, rfl⟩
    rw [hfd] at hf' hk2 hk3 hk4 hk5
    subst hf'
    have HFD := Lib.hid hfd
    have HX := Lib.hid hx
    have HV := Lib.hid hv
    have HX4 := Lib.hid hx4
    have HF4 := Lib.hid hf4
    have HK1x := Lib.hid hk1
    have HK2x := Lib.hid hk2
    have HK5x := Lib.hid hk5
    clear hk1 hk2 hk3 hk5 hv hx hfd hx4 hf4
    have hili : (i : Int) < (s.opn.length : Int) := by omega
    have hkli : (k : Int) < (s.files.length : Int) := by omega
    have HN := Lib.hid (bAlloc w (smO (some ⟨bf, offf, none⟩) (some ⟨b, off, none⟩) c0 c1 s))
    have HK : Hid (Blk (w.alloc (smO (some ⟨bf, offf, none⟩) (some ⟨b, off, none⟩) c0 c1 s)) w.heap.size 25 #[.slice (some ⟨bf, offf, none⟩) s.files.length c0, .slice (some ⟨b, off, none⟩) s.opn.length c1, .int .i64 s.inp, .int .i64 s.out, .int .i64 s.nxt]) := Blk.new _ _ _
    go_enter Try.func47, Try.ntmps47
    go_wp2_with fail
    refine (opened_good HA2.out _ _ (HS.out.next HN.out)).mono ?_
    rintro e w1 ⟨rfl, hb1⟩
    have HB1 := Lib.hid (bNext HN.out hb1)
    have HK1 := Lib.hid (HK.out.next hb1)
    obtain ⟨p0, p1, p2, p3, p4⟩ := smBox HK1.out
    have hz1 := HK1.out.lt
    clear hb1
    obtain ⟨q0, q1, q2, q3, q4, q5, q6⟩ := HX4.out.below hb HB1.out
    cases hm : x.mode != 1
    · have hme : x.mode = 1 := by simpa using hm
      obtain ⟨hp1, hp2⟩ := HK5x.out hme
      clear hme
      cases hpa : x.past
      · rw [hpa] at q6
        have HR := Lib.hid (show readV s id ok = .ok i by rw [HRV.out, hm, hpa]; rfl)
        have HRT := Lib.hid (show restV s id ok = f.text.extract x.pos.toNat f.text.size by simp only [restV, HR.out, HX.out, restT, HFD.out])
        go_wp2_with fail
        refine wp_region_N (SG (some ⟨bf, offf, none⟩) (some ⟨b, off, none⟩) c0 c1 s w.heap.size x (.bool false) w1.heap.size) (fun _ => true) (by kernel_rfl) ?_
        have hB0 := bDrewN (HB1.out.alloc (Nat.le_of_lt hz1) (.cells #[.int .i64 x.id, .string x.file, .int .i64 x.mode, .int .i64 x.pos, .string x.alias_, .int .i64 x.eof, (.bool false)] 52)) 1
        have hS0 : SG (some ⟨bf, offf, none⟩) (some ⟨b, off, none⟩) c0 c1 s w.heap.size x (.bool false) w1.heap.size (w1.alloc (.cells #[.int .i64 x.id, .string x.file, .int .i64 x.mode, .int .i64 x.pos, .string x.alias_, .int .i64 x.eof, (.bool false)] 52)).drew := ⟨HK1.out.alloc _, Blk.new _ _ _⟩
        refine wpAnyN_take (i := 0) (v := ?v1) rfl (by kernel_rfl) (by kernel_rfl) (by kernel_rfl) (by kernel_rfl) (fun _ _ _ h => h) (Or.inl ⟨by rfl, ?hy1⟩) (by assumption) ?_
        case hy1 => intro w hSw; obtain ⟨⟨y0, y1, y2, y3, y4⟩, r1, r3⟩ := (show _ ∧ _ ∧ _ from ⟨smBox hSw.1, by have := hSw.2.cell 1; simpa using this, by have := hSw.2.cell 3; simpa using this⟩); go_simp; try with_reducible rfl
        simp only [Act.put, List.getElem_toArray, List.getElem_cons_zero, List.setIfInBounds_toArray, List.set_cons_zero, List.set_cons_succ]
        refine wpAnyN_take (i := 1) (v := ?v2) rfl (by kernel_rfl) (by kernel_rfl) (by kernel_rfl) (by kernel_rfl) (fun _ _ _ h => h) (Or.inl ⟨by rfl, ?hy2⟩) (by assumption) ?_
        case hy2 => intro w hSw; obtain ⟨⟨y0, y1, y2, y3, y4⟩, r1, r3⟩ := (show _ ∧ _ ∧ _ from ⟨smBox hSw.1, by have := hSw.2.cell 1; simpa using this, by have := hSw.2.cell 3; simpa using this⟩); go_simp; try with_reducible rfl
        simp only [Act.put, List.getElem_toArray, List.getElem_cons_zero, List.getElem_cons_succ, List.setIfInBounds_toArray, List.set_cons_zero, List.set_cons_succ]
        refine wpAnyN_take (i := 2) (v := ?v3) rfl (by kernel_rfl) (by kernel_rfl) (by kernel_rfl) (by kernel_rfl) (fun _ _ _ h => h) (Or.inl ⟨by rfl, ?hy3⟩) (by assumption) ?_
        case hy3 => intro w hSw; obtain ⟨⟨y0, y1, y2, y3, y4⟩, r1, r3⟩ := (show _ ∧ _ ∧ _ from ⟨smBox hSw.1, by have := hSw.2.cell 1; simpa using this, by have := hSw.2.cell 3; simpa using this⟩); go_simp; try with_reducible rfl
        simp only [Act.put, List.getElem_toArray, List.getElem_cons_zero, List.getElem_cons_succ, List.setIfInBounds_toArray, List.set_cons_zero, List.set_cons_succ]
        refine wpAnyN_take (i := 3) (v := ?v4) rfl (by kernel_rfl) (by kernel_rfl) (by kernel_rfl) (by kernel_rfl) (fun _ _ _ h => h) (Or.inl ⟨by rfl, ?hy4⟩) (by assumption) ?_
        case hy4 => intro w hSw; obtain ⟨⟨y0, y1, y2, y3, y4⟩, r1, r3⟩ := (show _ ∧ _ ∧ _ from ⟨smBox hSw.1, by have := hSw.2.cell 1; simpa using this, by have := hSw.2.cell 3; simpa using this⟩); go_simp; try with_reducible rfl
        simp only [Act.put, List.getElem_toArray, List.getElem_cons_zero, List.getElem_cons_succ, List.setIfInBounds_toArray, List.set_cons_zero, List.set_cons_succ]
        refine wpAnyN_take (i := 4) (v := ?v5) rfl (by kernel_rfl) (by kernel_rfl) (by kernel_rfl) (by kernel_rfl) (fun _ _ _ h => h) (Or.inl ⟨by rfl, ?hy5⟩) (by assumption) ?_
        case hy5 => intro w hSw; obtain ⟨⟨y0, y1, y2, y3, y4⟩, r1, r3⟩ := (show _ ∧ _ ∧ _ from ⟨smBox hSw.1, by have := hSw.2.cell 1; simpa using this, by have := hSw.2.cell 3; simpa using this⟩); go_simp; try with_reducible rfl
        simp only [Act.put, List.getElem_toArray, List.getElem_cons_zero, List.getElem_cons_succ, List.setIfInBounds_toArray, List.set_cons_zero, List.set_cons_succ]
        refine wpAnyN_take (i := 5) (v := ?v6) rfl (by kernel_rfl) (by kernel_rfl) (by kernel_rfl) (by kernel_rfl) (fun _ _ _ h => h) (Or.inl ⟨by rfl, ?hy6⟩) (by assumption) ?_
        case hy6 => intro w hSw; obtain ⟨⟨y0, y1, y2, y3, y4⟩, r1, r3⟩ := (show _ ∧ _ ∧ _ from ⟨smBox hSw.1, by have := hSw.2.cell 1; simpa using this, by have := hSw.2.cell 3; simpa using this⟩); go_simp; try with_reducible rfl
        simp only [Act.put, List.getElem_toArray, List.getElem_cons_zero, List.getElem_cons_succ, List.setIfInBounds_toArray, List.set_cons_zero, List.set_cons_succ]
        refine wpAnyN_take (i := 10) (v := ?v7) rfl (by kernel_rfl) (by kernel_rfl) (by kernel_rfl) (by kernel_rfl) (fun _ _ _ h => h) (Or.inl ⟨by rfl, ?hy7⟩) (by assumption) ?_
        case hy7 => intro w hSw; obtain ⟨⟨y0, y1, y2, y3, y4⟩, r1, r3⟩ := (show _ ∧ _ ∧ _ from ⟨smBox hSw.1, by have := hSw.2.cell 1; simpa using this, by have := hSw.2.cell 3; simpa using this⟩); go_simp; try with_reducible rfl
        simp only [Act.put, List.getElem_toArray, List.getElem_cons_zero, List.getElem_cons_succ, List.setIfInBounds_toArray, List.set_cons_zero, List.set_cons_succ]
        refine wpAnyN_take (i := 11) (v := ?v8) rfl (by kernel_rfl) (by kernel_rfl) (by kernel_rfl) (by kernel_rfl) (fun _ _ _ h => h) (Or.inl ⟨by rfl, ?hy8⟩) (by assumption) ?_
        case hy8 => intro w hSw; obtain ⟨⟨y0, y1, y2, y3, y4⟩, r1, r3⟩ := (show _ ∧ _ ∧ _ from ⟨smBox hSw.1, by have := hSw.2.cell 1; simpa using this, by have := hSw.2.cell 3; simpa using this⟩); go_simp; try with_reducible rfl
        simp only [Act.put, List.getElem_toArray, List.getElem_cons_zero, List.getElem_cons_succ, List.setIfInBounds_toArray, List.set_cons_zero, List.set_cons_succ]
        refine wpAnyN_one (i := 6) (by kernel_rfl) rfl (fun K hK => ?_)
        simp only [List.getElem_toArray, List.getElem_cons_zero, List.getElem_cons_succ]
        go_simp
        refine (file_any _ s x.file _ (HS.out.next hB0)).mono ?_
        rintro e v1 ⟨rfl, hb1⟩
        have hB1 := bNext hB0 hb1
        have hS1 := SG.next hS0 hb1
        obtain ⟨g0, g1⟩ := HF4.out.below hbf hB1
        rw [HK1x.out]
        refine hK _ _ (fun _ => hS1) ?_
        refine wpAnyN_take (i := 13) (v := ?v9) rfl (by kernel_rfl) (by kernel_rfl) (by kernel_rfl) (by kernel_rfl) (fun _ _ _ h => h) (Or.inl ⟨by rfl, ?hy9⟩) (by assumption) ?_
        case hy9 => intro w hSw; obtain ⟨⟨y0, y1, y2, y3, y4⟩, r1, r3⟩ := (show _ ∧ _ ∧ _ from ⟨smBox hSw.1, by have := hSw.2.cell 1; simpa using this, by have := hSw.2.cell 3; simpa using this⟩); go_simp; try with_reducible rfl
        simp only [Act.put, List.getElem_toArray, List.getElem_cons_zero, List.getElem_cons_succ, List.setIfInBounds_toArray, List.set_cons_zero, List.set_cons_succ]
        refine wpAnyN_one (i := 7) (by kernel_rfl) rfl (fun K hK => ?_)
        simp only [List.getElem_toArray, List.getElem_cons_zero, List.getElem_cons_succ]
        go_simp
        refine hK _ _ (fun _ => hS1) ?_
        refine wpAnyN_one (i := 8) (by kernel_rfl) rfl (fun K hK => ?_)
        simp only [List.getElem_toArray, List.getElem_cons_zero, List.getElem_cons_succ]
        go_simp
        refine hK _ _ (fun _ => hS1) ?_
        refine wpAnyN_one (i := 9) (by kernel_rfl) rfl (fun K hK => ?_)
        simp only [List.getElem_toArray, List.getElem_cons_zero, List.getElem_cons_succ]
        go_simp
        refine hK _ _ (fun _ => hS1) ?_
        refine wpAnyN_one (i := 12) (by kernel_rfl) rfl (fun K hK => ?_)
        simp only [List.getElem_toArray, List.getElem_cons_zero, List.getElem_cons_succ]
        go_simp
        refine hK _ _ (fun _ => hS1) ?_
        refine wpAnyN_one (i := 14) (by kernel_rfl) rfl (fun K hK => ?_)
        simp only [List.getElem_toArray, List.getElem_cons_zero, List.getElem_cons_succ]
        go_simp
        refine hK _ _ (fun _ => hS1) ?_
        refine wpAnyN_one (i := 15) (by kernel_rfl) rfl (fun K hK => ?_)
        simp only [List.getElem_toArray, List.getElem_cons_zero, List.getElem_cons_succ]
        go_simp
        refine hK _ _ (fun _ => hS1) ?_
        refine wpAnyN_done (by kernel_rfl) ?_ _
        have HB3 := Lib.hid hB1
        clear hB0 hS0 hS1 hB1 hb1
        go_wp2_with fail
        go_ret3
        exact ⟨by rw [HRT.out, HR.out]; rfl, HB3.out⟩
      · rw [hpa] at q6
        cases heo : x.eof == 1
        · have HEO := Lib.hid heo
          have HR := Lib.hid (show readV s id ok = .ok i by rw [HRV.out, hm, hpa, heo]; rfl)
          have HRT := Lib.hid (show restV s id ok = f.text.extract x.pos.toNat f.text.size by simp only [restV, HR.out, HX.out, restT, HFD.out])
          go_wp2_with fail
          refine wp_region_N (SG (some ⟨bf, offf, none⟩) (some ⟨b, off, none⟩) c0 c1 s w.heap.size x (.bool true) w1.heap.size) (fun _ => true) (by kernel_rfl) ?_
          have hB0 := bDrewN (HB1.out.alloc (Nat.le_of_lt hz1) (.cells #[.int .i64 x.id, .string x.file, .int .i64 x.mode, .int .i64 x.pos, .string x.alias_, .int .i64 x.eof, (.bool true)] 52)) 1
          have hS0 : SG (some ⟨bf, offf, none⟩) (some ⟨b, off, none⟩) c0 c1 s w.heap.size x (.bool true) w1.heap.size (w1.alloc (.cells #[.int .i64 x.id, .string x.file, .int .i64 x.mode, .int .i64 x.pos, .string x.alias_, .int .i64 x.eof, (.bool true)] 52)).drew := ⟨HK1.out.alloc _, Blk.new _ _ _⟩
          refine wpAnyN_take (i := 0) (v := ?v10) rfl (by kernel_rfl) (by kernel_rfl) (by kernel_rfl) (by kernel_rfl) (fun _ _ _ h => h) (Or.inl ⟨by rfl, ?hy10⟩) (by assumption) ?_
          case hy10 => intro w hSw; obtain ⟨⟨y0, y1, y2, y3, y4⟩, r1, r3⟩ := (show _ ∧ _ ∧ _ from ⟨smBox hSw.1, by have := hSw.2.cell 1; simpa using this, by have := hSw.2.cell 3; simpa using this⟩); go_simp; try with_reducible rfl
          simp only [Act.put, List.getElem_toArray, List.getElem_cons_zero, List.setIfInBounds_toArray, List.set_cons_zero, List.set_cons_succ]
          refine wpAnyN_take (i := 1) (v := ?v11) rfl (by kernel_rfl) (by kernel_rfl) (by kernel_rfl) (by kernel_rfl) (fun _ _ _ h => h) (Or.inl ⟨by rfl, ?hy11⟩) (by assumption) ?_
          case hy11 => intro w hSw; obtain ⟨⟨y0, y1, y2, y3, y4⟩, r1, r3⟩ := (show _ ∧ _ ∧ _ from ⟨smBox hSw.1, by have := hSw.2.cell 1; simpa using this, by have := hSw.2.cell 3; simpa using this⟩); go_simp; try with_reducible rfl
          simp only [Act.put, List.getElem_toArray, List.getElem_cons_zero, List.getElem_cons_succ, List.setIfInBounds_toArray, List.set_cons_zero, List.set_cons_succ]
          refine wpAnyN_take (i := 2) (v := ?v12) rfl (by kernel_rfl) (by kernel_rfl) (by kernel_rfl) (by kernel_rfl) (fun _ _ _ h => h) (Or.inl ⟨by rfl, ?hy12⟩) (by assumption) ?_
          case hy12 => intro w hSw; obtain ⟨⟨y0, y1, y2, y3, y4⟩, r1, r3⟩ := (show _ ∧ _ ∧ _ from ⟨smBox hSw.1, by have := hSw.2.cell 1; simpa using this, by have := hSw.2.cell 3; simpa using this⟩); go_simp; try with_reducible rfl
          simp only [Act.put, List.getElem_toArray, List.getElem_cons_zero, List.getElem_cons_succ, List.setIfInBounds_toArray, List.set_cons_zero, List.set_cons_succ]
          refine wpAnyN_take (i := 3) (v := ?v13) rfl (by kernel_rfl) (by kernel_rfl) (by kernel_rfl) (by kernel_rfl) (fun _ _ _ h => h) (Or.inl ⟨by rfl, ?hy13⟩) (by assumption) ?_
          case hy13 => intro w hSw; obtain ⟨⟨y0, y1, y2, y3, y4⟩, r1, r3⟩ := (show _ ∧ _ ∧ _ from ⟨smBox hSw.1, by have := hSw.2.cell 1; simpa using this, by have := hSw.2.cell 3; simpa using this⟩); go_simp; try with_reducible rfl
          simp only [Act.put, List.getElem_toArray, List.getElem_cons_zero, List.getElem_cons_succ, List.setIfInBounds_toArray, List.set_cons_zero, List.set_cons_succ]
          refine wpAnyN_take (i := 4) (v := ?v14) rfl (by kernel_rfl) (by kernel_rfl) (by kernel_rfl) (by kernel_rfl) (fun _ _ _ h => h) (Or.inl ⟨by rfl, ?hy14⟩) (by assumption) ?_
          case hy14 => intro w hSw; obtain ⟨⟨y0, y1, y2, y3, y4⟩, r1, r3⟩ := (show _ ∧ _ ∧ _ from ⟨smBox hSw.1, by have := hSw.2.cell 1; simpa using this, by have := hSw.2.cell 3; simpa using this⟩); go_simp; try with_reducible rfl
          simp only [Act.put, List.getElem_toArray, List.getElem_cons_zero, List.getElem_cons_succ, List.setIfInBounds_toArray, List.set_cons_zero, List.set_cons_succ]
          refine wpAnyN_take (i := 5) (v := ?v15) rfl (by kernel_rfl) (by kernel_rfl) (by kernel_rfl) (by kernel_rfl) (fun _ _ _ h => h) (Or.inl ⟨by rfl, ?hy15⟩) (by assumption) ?_
          case hy15 => intro w hSw; obtain ⟨⟨y0, y1, y2, y3, y4⟩, r1, r3⟩ := (show _ ∧ _ ∧ _ from ⟨smBox hSw.1, by have := hSw.2.cell 1; simpa using this, by have := hSw.2.cell 3; simpa using this⟩); go_simp; try with_reducible rfl
          simp only [Act.put, List.getElem_toArray, List.getElem_cons_zero, List.getElem_cons_succ, List.setIfInBounds_toArray, List.set_cons_zero, List.set_cons_succ]
          refine wpAnyN_take (i := 10) (v := ?v16) rfl (by kernel_rfl) (by kernel_rfl) (by kernel_rfl) (by kernel_rfl) (fun _ _ _ h => h) (Or.inl ⟨by rfl, ?hy16⟩) (by assumption) ?_
          case hy16 => intro w hSw; obtain ⟨⟨y0, y1, y2, y3, y4⟩, r1, r3⟩ := (show _ ∧ _ ∧ _ from ⟨smBox hSw.1, by have := hSw.2.cell 1; simpa using this, by have := hSw.2.cell 3; simpa using this⟩); go_simp; try with_reducible rfl
          simp only [Act.put, List.getElem_toArray, List.getElem_cons_zero, List.getElem_cons_succ, List.setIfInBounds_toArray, List.set_cons_zero, List.set_cons_succ]
          refine wpAnyN_take (i := 11) (v := ?v17) rfl (by kernel_rfl) (by kernel_rfl) (by kernel_rfl) (by kernel_rfl) (fun _ _ _ h => h) (Or.inl ⟨by rfl, ?hy17⟩) (by assumption) ?_
          case hy17 => intro w hSw; obtain ⟨⟨y0, y1, y2, y3, y4⟩, r1, r3⟩ := (show _ ∧ _ ∧ _ from ⟨smBox hSw.1, by have := hSw.2.cell 1; simpa using this, by have := hSw.2.cell 3; simpa using this⟩); go_simp; try with_reducible rfl
          simp only [Act.put, List.getElem_toArray, List.getElem_cons_zero, List.getElem_cons_succ, List.setIfInBounds_toArray, List.set_cons_zero, List.set_cons_succ]
          refine wpAnyN_one (i := 6) (by kernel_rfl) rfl (fun K hK => ?_)
          simp only [List.getElem_toArray, List.getElem_cons_zero, List.getElem_cons_succ]
          go_simp
          refine (file_any _ s x.file _ (HS.out.next hB0)).mono ?_
          rintro e v1 ⟨rfl, hb1⟩
          have hB1 := bNext hB0 hb1
          have hS1 := SG.next hS0 hb1
          obtain ⟨g0, g1⟩ := HF4.out.below hbf hB1
          rw [HK1x.out]
          refine hK _ _ (fun _ => hS1) ?_
          refine wpAnyN_take (i := 13) (v := ?v18) rfl (by kernel_rfl) (by kernel_rfl) (by kernel_rfl) (by kernel_rfl) (fun _ _ _ h => h) (Or.inl ⟨by rfl, ?hy18⟩) (by assumption) ?_
          case hy18 => intro w hSw; obtain ⟨⟨y0, y1, y2, y3, y4⟩, r1, r3⟩ := (show _ ∧ _ ∧ _ from ⟨smBox hSw.1, by have := hSw.2.cell 1; simpa using this, by have := hSw.2.cell 3; simpa using this⟩); go_simp; try with_reducible rfl
          simp only [Act.put, List.getElem_toArray, List.getElem_cons_zero, List.getElem_cons_succ, List.setIfInBounds_toArray, List.set_cons_zero, List.set_cons_succ]
          refine wpAnyN_one (i := 7) (by kernel_rfl) rfl (fun K hK => ?_)
          simp only [List.getElem_toArray, List.getElem_cons_zero, List.getElem_cons_succ]
          go_simp
          refine hK _ _ (fun _ => hS1) ?_
          refine wpAnyN_one (i := 8) (by kernel_rfl) rfl (fun K hK => ?_)
          simp only [List.getElem_toArray, List.getElem_cons_zero, List.getElem_cons_succ]
          go_simp
          refine hK _ _ (fun _ => hS1) ?_
          refine wpAnyN_one (i := 9) (by kernel_rfl) rfl (fun K hK => ?_)
          simp only [List.getElem_toArray, List.getElem_cons_zero, List.getElem_cons_succ]
          go_simp
          refine hK _ _ (fun _ => hS1) ?_
          refine wpAnyN_one (i := 12) (by kernel_rfl) rfl (fun K hK => ?_)
          simp only [List.getElem_toArray, List.getElem_cons_zero, List.getElem_cons_succ]
          go_simp
          refine hK _ _ (fun _ => hS1) ?_
          refine wpAnyN_one (i := 14) (by kernel_rfl) rfl (fun K hK => ?_)
          simp only [List.getElem_toArray, List.getElem_cons_zero, List.getElem_cons_succ]
          go_simp
          refine hK _ _ (fun _ => hS1) ?_
          refine wpAnyN_one (i := 15) (by kernel_rfl) rfl (fun K hK => ?_)
          simp only [List.getElem_toArray, List.getElem_cons_zero, List.getElem_cons_succ]
          go_simp
          refine hK _ _ (fun _ => hS1) ?_
          refine wpAnyN_done (by kernel_rfl) ?_ _
          have HB3 := Lib.hid hB1
          clear hB0 hS0 hS1 hB1 hb1
          go_wp2_with fail
          go_ret3
          exact ⟨by rw [HRT.out, HR.out]; rfl, HB3.out⟩
        · have HEO := Lib.hid heo
          have HR := Lib.hid (show readV s id ok = .error 5 by rw [HRV.out, hm, hpa, heo]; rfl)
          go_wp2_with fail
          go_ret3
          exact ⟨by simp only [restV, HR.out]; rfl, HB1.out.alloc (by omega) _⟩
    · have HM := Lib.hid hm
      have HR := Lib.hid (show readV s id ok = .error 5 by rw [HRV.out, hm]; rfl)
      go_wp2_with fail
      go_ret3
      exact ⟨by simp only [restV, HR.out]; rfl, HB1.out.alloc (by omega) _⟩
theorem askV_er {s : Sm} {id : Int} {ok : Bool} {e : Int} (h : askV s id ok = .error e) : e = 1 ∨ e = 4 := by
  rcases askV_err h with ⟨rfl, -⟩ | ⟨rfl, -⟩
  · exact .inl rfl
  · exact .inr rfl
theorem readV_er {s : Sm} {id : Int} {ok : Bool} {e : Int} (h : readV s id ok = .error e) : e = 1 ∨ e = 4 ∨ e = 5 := by
  rcases readV_err h with h | ⟨rfl, -⟩
  · rcases askV_er h with rfl | rfl
    · exact .inl rfl
    · exact .inr (.inl rfl)
  · exact .inr (.inr rfl)
theorem readable_bad {s : Sm} {id : Int} {ok : Bool} {er : Int} (h : readV s id ok = .error er) (v : Value) (w : World) (hs : SmAt w w.heap.size v s) :
    Calls Try.prog 47 #[v, .int .i64 id, .bool ok] w fun e w' => e = .returned (.tuple #[.int .i64 0, .string .empty, .int .i64 er]) ∧ Below w.heap.size w w' := by
  have h1 := readable_any v s id ok w hs
  have h2 : restV s id ok = .empty := by unfold restV; rw [h]
  rw [h, h2] at h1
  exact h1
theorem readable_good {s : Sm} {id : Int} {ok : Bool} {i : Nat} {x : G} (h : readV s id ok = .ok i) (hx : s.opn[i]? = some x) (v : Value) (w : World) (hs : SmAt w w.heap.size v s) :
    Calls Try.prog 47 #[v, .int .i64 id, .bool ok] w fun e w' => e = .returned (.tuple #[.int .i64 i, .string (restT s x), .int .i64 0]) ∧ Below w.heap.size w w' := by
  have h1 := readable_any v s id ok w hs
  have h2 : restV s id ok = restT s x := by unfold restV; simp only [h, hx]
  rw [h, h2] at h1
  exact h1
theorem restT_size {s : Sm} {x : G} (h : 0 ≤ x.pos ∧ x.pos ≤ ((fileOf s x).text.size : Int)) : ((restT s x).size : Int) = (fileOf s x).text.size - x.pos := by
  unfold restT
  rw [ByteArray.size_extract]
  omega
end Go.Proofs.Ytklpghpfdeojeaa
