/-
  Plain: a stream that was opened is the last one; it is used and closed.
-/
import Derived.Test.YtklpghpfdeojeaaXe
namespace Go.Proofs.Ytklpghpfdeojeaa
open Go.RowKit

theorem find_last {l : List G} {x : G} (hl : ∀ y ∈ l, y.id ≠ x.id) : (l ++ [x]).findIdx? (idP x.id) = some l.length := by
  rw [List.findIdx?_append, List.findIdx?_eq_none_iff.2 (fun y hy => by simpa [idP] using hl y hy)]
  simp [idP, List.findIdx?_cons]
theorem ask_last {t : Sm} {l : List G} {x : G} (hv : validB t = true) (ho : t.opn = l ++ [x]) (hl : ∀ y ∈ l, y.id ≠ x.id) : askV t x.id true = .ok l.length := by
  unfold askV
  rw [hv, ho, find_last hl]
  rfl
theorem last_at {t : Sm} {l : List G} {x : G} (ho : t.opn = l ++ [x]) : t.opn[l.length]? = some x := by rw [ho]; simp
theorem ids_below {s : Sm} (hv : validB s = true) : ∀ y ∈ s.opn, y.id < s.nxt := fun y hy => by
  have h := ((good_iff s).1 hv).st y hy
  simp only [validSt, Bool.and_eq_true, decide_eq_true_eq] at h
  exact h.1.2
theorem cur_below {s : Sm} (hv : validB s = true) : s.inp < s.nxt ∧ s.out < s.nxt := by
  obtain ⟨⟨x, hx, h1, -⟩, y, hy, h2, -⟩ := of_cur ((good_iff s).1 hv).cur
  exact ⟨h1 ▸ ids_below hv x hx, h2 ▸ ids_below hv y hy⟩
theorem text_there {s : Sm} (hv : validB s = true) {x : G} (hx : ∃ t : Sm, validB t = true ∧ t.files = s.files ∧ x ∈ t.opn) : (textV s x.file).isSome = true := by
  obtain ⟨t, hvt, hf, hxt⟩ := hx
  obtain ⟨i, hi⟩ := List.mem_iff_getElem?.1 hxt
  obtain ⟨k, h1, h2, -⟩ := valid_file hvt hi
  rw [hf] at h1 h2
  unfold textV
  rw [hv, if_pos rfl]
  cases h : s.files.findIdx? (fileP x.file) with
  | none => rw [idxI_none h] at h1; omega
  | some j =>
    rw [idxI_some h] at h1
    obtain rfl : j = k := by omega
    simp only [h2]
    rfl
theorem openV_cases (s : Sm) (name : ByteArray) (mode : Int) (al : ByteArray) (eof : Int) :
    (∃ er, openV s name mode al eof = .error er ∧ er ≠ 0) ∨ openV s name mode al eof = .ok (openS s name mode al eof, s.nxt) := by
  cases h : openV s name mode al eof with
  | error er =>
    refine .inl ⟨er, rfl, ?_⟩
    unfold openV at h
    split at h
    · split at h
      · cases h; decide
      split at h
      · cases h; decide
      split at h
      · cases h; decide
      · cases h
    · cases h; decide
  | ok r =>
    obtain ⟨t, c⟩ := r
    obtain ⟨-, -, -, -, -, -, -, -, -, -, rfl, rfl⟩ := openV_ok h
    exact .inr rfl
theorem closes_plain {s : Sm} {name al : ByteArray} {mode eof : Int} (h : openV s name mode al eof = .ok (openS s name mode al eof, s.nxt)) :
    ∃ u c, useV (openS s name mode al eof) s.nxt = .ok u ∧ closeV u s.nxt = .ok c ∧ closeV c s.nxt = .error 4 ∧ (textV c name).isSome = true ∧ c.opn = s.opn ∧ c.nxt = s.nxt + 1 ∧
      (mode = 1 → u.inp = s.nxt ∧ c.inp = 0 ∧ c.out = s.out) ∧ (mode ≠ 1 → u.out = s.nxt ∧ c.out = 1 ∧ c.inp = s.inp) ∧ validB (openS s name mode al eof) = true ∧ validB u = true ∧ validB c = true := by
  obtain ⟨hv, -, -, -, -, -, -, -, -, -, -, -⟩ := openV_ok h
  have hvt := open_valid h
  have hid := ids_below hv
  obtain ⟨hci, hco⟩ := cur_below hv
  have hn2 := (valid_head hv).2.2.1
  have hne : ∀ y ∈ s.opn, y.id ≠ (openX s name mode al eof).id := fun y hy => by have := hid y hy; show y.id ≠ s.nxt; omega
  have ha := ask_last (t := openS s name mode al eof) (x := openX s name mode al eof) hvt rfl hne
  have hx := last_at (t := openS s name mode al eof) (l := s.opn) (x := openX s name mode al eof) rfl
  have hu : useV (openS s name mode al eof) s.nxt = .ok (useS (openS s name mode al eof) mode s.nxt) := by
    unfold useV
    rw [ha]
    dsimp only
    rw [hx]
  have hvu := use_valid hu
  have huo : (useS (openS s name mode al eof) mode s.nxt).opn = s.opn ++ [openX s name mode al eof] := by unfold useS; split <;> rfl
  have huf : (useS (openS s name mode al eof) mode s.nxt).files = openF s.files name mode := by unfold useS; split <;> rfl
  have hun : (useS (openS s name mode al eof) mode s.nxt).nxt = s.nxt + 1 := by unfold useS; split <;> rfl
  have ha2 := ask_last hvu huo hne
  have hc : closeV (useS (openS s name mode al eof) mode s.nxt) s.nxt = .ok (closeS (useS (openS s name mode al eof) mode s.nxt) s.opn.length s.nxt) := by
    unfold closeV
    rw [ha2]
    dsimp only
    rw [if_neg (by omega)]
  have hvc := close_valid hc
  have hco' : (closeS (useS (openS s name mode al eof) mode s.nxt) s.opn.length s.nxt).opn = s.opn := by
    show ((useS (openS s name mode al eof) mode s.nxt).opn).eraseIdx s.opn.length = s.opn
    rw [huo, List.eraseIdx_append_of_length_le (Nat.le_refl _)]
    simp
  refine ⟨_, _, hu, hc, ?_, ?_, hco', hun, fun hm => ?_, fun hm => ?_, hvt, hvu, hvc⟩
  · unfold closeV askV
    rw [hvc, hco', List.findIdx?_eq_none_iff.2 (fun y hy => by simpa [idP] using hne y hy)]
    rfl
  · exact text_there (x := openX s name mode al eof) hvc ⟨_, hvu, rfl, by rw [huo]; simp⟩
  · subst hm
    unfold useS closeS openS
    simp
    omega
  · have hm' : (mode == 1) = false := by simpa using hm
    unfold useS closeS openS
    simp [hm']
    omega
end Go.Proofs.Ytklpghpfdeojeaa
