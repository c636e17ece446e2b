/-
  Walks: whether a stream fits, both.
-/
import Derived.Test.YtklpghpfdeojeaaSd
namespace Go.Proofs.Ytklpghpfdeojeaa
open Go.RowKit

def lenAt (l : List F) (k : Int) : Int := match l[k.toNat]? with | some f => f.text.size | none => 0
def fitsX (x : G) (k n : Int) : Bool :=
  decide (0 ≤ k) && kindB x.mode && kindB x.eof && decide ((x.alias_.size : Int) ≤ 100) &&
  (if x.mode == 1 then decide (0 ≤ x.pos) && decide (x.pos ≤ n) && (!x.past || x.pos == n && !(x.eof == 3))
   else x.pos == 0 && !x.past)
def fitsB (s : Sm) (x : G) : Bool := fitsX x (idxI s.files (fileP x.file)) (lenAt s.files (idxI s.files (fileP x.file)))
theorem kind_iff {n : Int} : kindB n = true ↔ 1 ≤ n ∧ n ≤ 3 := by simp [kindB]
theorem kind_no {n : Int} : kindB n = false ↔ n < 1 ∨ 3 < n := by
  unfold kindB
  by_cases h1 : 1 ≤ n <;> by_cases h2 : n ≤ 3 <;> simp [h1, h2] <;> omega

set_option maxHeartbeats 1000000 in
theorem fits_any (v : Value) (s : Sm) (x : G) (w : World) (hs : SmAt w w.heap.size v s) :
    Calls Try.prog 37 #[v, x.v] w fun e w' => e = .returned (.bool (fitsB s x)) ∧ Below w.heap.size w w' := by
  obtain ⟨A0, c0, A1, c1, rfl, hcap, h0, h1⟩ := hs
  have HA := Lib.hid h0
  have HS : Hid (SmAt w w.heap.size (smV A0 A1 c0 c1 s) s) := ⟨A0, c0, A1, c1, rfl, hcap, h0, h1⟩
  have hfl := h0.1.2
  clear h0 h1
  go_enter Try.func37, Try.ntmps37
  go_wp2_with fail
  have hb0 : Below w.heap.size w ((w.alloc (.cells #[.slice A0 s.files.length c0, .slice A1 s.opn.length c1, .int .i64 s.inp, .int .i64 s.out, .int .i64 s.nxt] 25)).alloc (.cells #[.int .i64 x.id, .string x.file, .int .i64 x.mode, .int .i64 x.pos, .string x.alias_, .int .i64 x.eof, .bool x.past] 52)) := (bAlloc _ _).alloc (by simp) _
  have hk0 : Blk ((w.alloc (.cells #[.slice A0 s.files.length c0, .slice A1 s.opn.length c1, .int .i64 s.inp, .int .i64 s.out, .int .i64 s.nxt] 25)).alloc (.cells #[.int .i64 x.id, .string x.file, .int .i64 x.mode, .int .i64 x.pos, .string x.alias_, .int .i64 x.eof, .bool x.past] 52)) w.heap.size 25 #[.slice A0 s.files.length c0, .slice A1 s.opn.length c1, .int .i64 s.inp, .int .i64 s.out, .int .i64 s.nxt] := (Blk.new w 25 _).alloc _
  have hk1 : Blk ((w.alloc (.cells #[.slice A0 s.files.length c0, .slice A1 s.opn.length c1, .int .i64 s.inp, .int .i64 s.out, .int .i64 s.nxt] 25)).alloc (.cells #[.int .i64 x.id, .string x.file, .int .i64 x.mode, .int .i64 x.pos, .string x.alias_, .int .i64 x.eof, .bool x.past] 52)) (w.heap.size + 1) 52 #[.int .i64 x.id, .string x.file, .int .i64 x.mode, .int .i64 x.pos, .string x.alias_, .int .i64 x.eof, .bool x.past] := by
    have h := Blk.new (w.alloc (.cells #[.slice A0 s.files.length c0, .slice A1 s.opn.length c1, .int .i64 s.inp, .int .i64 s.out, .int .i64 s.nxt] 25)) 52 #[.int .i64 x.id, .string x.file, .int .i64 x.mode, .int .i64 x.pos, .string x.alias_, .int .i64 x.eof, .bool x.past]
    rwa [World.size_alloc] at h
  refine (file_any _ s x.file _ (HS.out.next hb0)).mono ?_
  rintro e w1 ⟨rfl, hb1⟩
  have hk0' := hk0.next hb1
  have hk1' := hk1.next hb1
  have HB := Lib.hid (bNext hb0 hb1)
  have HK0 := Lib.hid hk0'
  have HK1 := Lib.hid hk1'
  have g0 := hk0'.cell 0
  have x0 := hk1'.cell 0
  have x1 := hk1'.cell 1
  have x2 := hk1'.cell 2
  have x3 := hk1'.cell 3
  have x4 := hk1'.cell 4
  have x5 := hk1'.cell 5
  have x6 := hk1'.cell 6
  have z1 := hk1'.lt
  simp at g0 x0 x1 x2 x3 x4 x5 x6
  clear hb0 hk0 hk1 hb1 hk0' hk1'
  obtain ⟨k, hk⟩ : ∃ k, idxI s.files (fileP x.file) = k := ⟨_, rfl⟩
  have hfd : fitsB s x = fitsX x k (lenAt s.files k) := by rw [fitsB, hk]
  rw [hk]
  rcases idxI_cases s.files (fileP x.file) with ⟨hn, -⟩ | ⟨i, f, hi, hil, hfi, -⟩
  · rw [hk] at hn
    subst hn
    have HR := Lib.hid (show fitsB s x = false by rw [hfd]; simp [fitsX])
    clear hfd hk
    go_wp2
    go_ret
    exact ⟨ret_bool HR.out.symm, HB.out⟩
  · rw [hk] at hi
    subst hi
    have HK := Lib.hid hk
    have hL : lenAt s.files (i : Int) = (f.text.size : Int) := by simp [lenAt, hfi]
    have HF := Lib.hid (show fitsB s x = fitsX x i f.text.size by rw [hfd, hL])
    have hki : decide (0 ≤ (i : Int)) = true := by simp
    obtain ⟨b, off, f', rfl, hbb, hf', hf4⟩ := HA.out.at hil
    rw [hfi] at hf'
    injection hf' with hf'
    subst hf'
    obtain ⟨q0, q1⟩ := hf4.below hbb HB.out
    clear hk hfi hf4 hL hfd
    go_wp2_with fail
    refine (kind_any _ _).mono ?_
    rintro e w2 ⟨rfl, rfl⟩
    cases hm : kindB x.mode
    · have HR := Lib.hid (show fitsB s x = false by rw [HF.out]; simp [fitsX, hm])
      clear HF hm
      go_wp2
      go_ret
      exact ⟨ret_bool HR.out.symm, HB.out⟩
    · have HM := Lib.hid hm
      clear hm
      go_wp2_with fail
      refine (kind_any _ _).mono ?_
      rintro e w2 ⟨rfl, rfl⟩
      cases he : kindB x.eof
      · have HR := Lib.hid (show fitsB s x = false by rw [HF.out]; simp [fitsX, he])
        clear HF he
        go_wp2
        go_ret
        exact ⟨ret_bool HR.out.symm, HB.out⟩
      · have HE := Lib.hid he
        clear he
        go_wp2
        all_goals go_ret
        all_goals refine ⟨ret_bool ?_, HB.out⟩
        all_goals rw [HF.out, fitsX, HM.out, HE.out]
        all_goals clear HF
        all_goals first
          | (simp [*]; done)
          | (simp [*]; omega)
          | (simp_all; done)
          | (have hmode : x.mode = 1 := by simpa using (by assumption : (x.mode != 1) = false)
             simp [*]; done)
          | (have hmode : x.mode = 1 := by simpa using (by assumption : (x.mode != 1) = false)
             have hpos : ¬ x.pos ≤ (f.text.size : Int) := by omega
             simp [*]; done)
          | (have hmode : x.mode = 1 := by simpa using (by assumption : (x.mode != 1) = false)
             have hpos : ¬ 0 ≤ x.pos := by omega
             simp [*]; done)
          | (have hmode : x.mode = 1 := by simpa using (by assumption : (x.mode != 1) = false)
             simp [*]; rfl)
/-- a stream is valid -/
def validSt (s : Sm) (x : G) : Bool := decide (0 ≤ x.id) && decide (x.id < s.nxt) && fitsB s x
set_option maxHeartbeats 1000000 in
theorem validStream_any (v : Value) (s : Sm) (x : G) (w : World) (hs : SmAt w w.heap.size v s) :
    Calls Try.prog 66 #[v, x.v] w fun e w' => e = .returned (.bool (validSt s x)) ∧ Below w.heap.size w w' := by
  obtain ⟨A0, c0, A1, c1, rfl, hcap, h0, h1⟩ := hs
  have HA := Lib.hid h0
  have HS : Hid (SmAt w w.heap.size (smV A0 A1 c0 c1 s) s) := ⟨A0, c0, A1, c1, rfl, hcap, h0, h1⟩
  have hfl := h0.1.2
  clear h0 h1
  go_enter Try.func66, Try.ntmps66
  go_wp2_with fail
  have hb0 : Below w.heap.size w ((w.alloc (.cells #[.slice A0 s.files.length c0, .slice A1 s.opn.length c1, .int .i64 s.inp, .int .i64 s.out, .int .i64 s.nxt] 25)).alloc (.cells #[.int .i64 x.id, .string x.file, .int .i64 x.mode, .int .i64 x.pos, .string x.alias_, .int .i64 x.eof, .bool x.past] 52)) := (bAlloc _ _).alloc (by simp) _
  have hk0 : Blk ((w.alloc (.cells #[.slice A0 s.files.length c0, .slice A1 s.opn.length c1, .int .i64 s.inp, .int .i64 s.out, .int .i64 s.nxt] 25)).alloc (.cells #[.int .i64 x.id, .string x.file, .int .i64 x.mode, .int .i64 x.pos, .string x.alias_, .int .i64 x.eof, .bool x.past] 52)) w.heap.size 25 #[.slice A0 s.files.length c0, .slice A1 s.opn.length c1, .int .i64 s.inp, .int .i64 s.out, .int .i64 s.nxt] := (Blk.new w 25 _).alloc _
  have hk1 : Blk ((w.alloc (.cells #[.slice A0 s.files.length c0, .slice A1 s.opn.length c1, .int .i64 s.inp, .int .i64 s.out, .int .i64 s.nxt] 25)).alloc (.cells #[.int .i64 x.id, .string x.file, .int .i64 x.mode, .int .i64 x.pos, .string x.alias_, .int .i64 x.eof, .bool x.past] 52)) (w.heap.size + 1) 52 #[.int .i64 x.id, .string x.file, .int .i64 x.mode, .int .i64 x.pos, .string x.alias_, .int .i64 x.eof, .bool x.past] := by
    have h := Blk.new (w.alloc (.cells #[.slice A0 s.files.length c0, .slice A1 s.opn.length c1, .int .i64 s.inp, .int .i64 s.out, .int .i64 s.nxt] 25)) 52 #[.int .i64 x.id, .string x.file, .int .i64 x.mode, .int .i64 x.pos, .string x.alias_, .int .i64 x.eof, .bool x.past]
    rwa [World.size_alloc] at h
  refine (rfile_any A0 s.files.length c0 s.files x.file _ (HA.out.next hb0)).mono ?_
  rintro e w1 ⟨rfl, rfl⟩
  have hb1 := Below.refl ((w.alloc (.cells #[.slice A0 s.files.length c0, .slice A1 s.opn.length c1, .int .i64 s.inp, .int .i64 s.out, .int .i64 s.nxt] 25)).alloc (.cells #[.int .i64 x.id, .string x.file, .int .i64 x.mode, .int .i64 x.pos, .string x.alias_, .int .i64 x.eof, .bool x.past] 52)).heap.size ((w.alloc (.cells #[.slice A0 s.files.length c0, .slice A1 s.opn.length c1, .int .i64 s.inp, .int .i64 s.out, .int .i64 s.nxt] 25)).alloc (.cells #[.int .i64 x.id, .string x.file, .int .i64 x.mode, .int .i64 x.pos, .string x.alias_, .int .i64 x.eof, .bool x.past] 52))
  obtain ⟨w1, hw1⟩ : ∃ w1, ((w.alloc (.cells #[.slice A0 s.files.length c0, .slice A1 s.opn.length c1, .int .i64 s.inp, .int .i64 s.out, .int .i64 s.nxt] 25)).alloc (.cells #[.int .i64 x.id, .string x.file, .int .i64 x.mode, .int .i64 x.pos, .string x.alias_, .int .i64 x.eof, .bool x.past] 52)) = w1 := ⟨_, rfl⟩
  rw [hw1] at hb0 hb1 hk0 hk1 ⊢
  clear hw1
  have hk0' := hk0.next hb1
  have hk1' := hk1.next hb1
  have HB := Lib.hid (bNext hb0 hb1)
  have HK0 := Lib.hid hk0'
  have HK1 := Lib.hid hk1'
  have g0 := hk0'.cell 0
  have g4 := hk0'.cell 4
  have x0 := hk1'.cell 0
  have x1 := hk1'.cell 1
  have x2 := hk1'.cell 2
  have x3 := hk1'.cell 3
  have x4 := hk1'.cell 4
  have x5 := hk1'.cell 5
  have x6 := hk1'.cell 6
  have z1 := hk1'.lt
  simp at g0 g4 x0 x1 x2 x3 x4 x5 x6
  clear hb0 hk0 hk1 hb1 hk0' hk1'
  obtain ⟨k, hk⟩ : ∃ k, idxI s.files (fileP x.file) = k := ⟨_, rfl⟩
  have hfd : fitsB s x = fitsX x k (lenAt s.files k) := by rw [fitsB, hk]
  rw [hk]
  rcases idxI_cases s.files (fileP x.file) with ⟨hn, -⟩ | ⟨i, f, hi, hil, hfi, -⟩
  · rw [hk] at hn
    subst hn
    have HR := Lib.hid (show validSt s x = false by rw [validSt, hfd]; simp [fitsX])
    clear hfd hk
    go_wp2
    go_ret
    exact ⟨ret_bool HR.out.symm, HB.out⟩
  · rw [hk] at hi
    subst hi
    have HK := Lib.hid hk
    have hL : lenAt s.files (i : Int) = (f.text.size : Int) := by simp [lenAt, hfi]
    have HF := Lib.hid (show validSt s x = (decide (0 ≤ x.id) && decide (x.id < s.nxt) && fitsX x i f.text.size) by rw [validSt, hfd, hL])
    have hki : decide (0 ≤ (i : Int)) = true := by simp
    obtain ⟨b, off, f', rfl, hbb, hf', hf4⟩ := HA.out.at hil
    rw [hfi] at hf'
    injection hf' with hf'
    subst hf'
    obtain ⟨q0, q1⟩ := hf4.below hbb HB.out
    clear hk hfi hf4 hL hfd
    go_wp2
    all_goals go_ret
    all_goals refine ⟨ret_bool ?_, HB.out⟩
    all_goals rw [HF.out, fitsX, kindB, kindB]
    all_goals clear HF
    all_goals first
      | (simp [*]; done)
      | (simp [*]; omega)
      | (simp_all; done)
      | (have hmode : x.mode = 1 := by simpa using (by assumption : (x.mode != 1) = false)
         simp [*]; done)
      | (have hmode : x.mode = 1 := by simpa using (by assumption : (x.mode != 1) = false)
         have hpos : ¬ x.pos ≤ (f.text.size : Int) := by omega
         simp [*]; done)
      | (have hmode : x.mode = 1 := by simpa using (by assumption : (x.mode != 1) = false)
         have hpos : ¬ 0 ≤ x.pos := by omega
         simp [*]; done)
      | (have hmode : x.mode = 1 := by simpa using (by assumption : (x.mode != 1) = false)
         simp [*]; rfl)
end Go.Proofs.Ytklpghpfdeojeaa
