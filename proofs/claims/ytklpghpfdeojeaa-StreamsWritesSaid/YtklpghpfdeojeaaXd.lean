/-
  Plain: Skip, Peek, Use, Put leave a valid state valid.
-/
import Derived.Test.YtklpghpfdeojeaaXc
namespace Go.Proofs.Ytklpghpfdeojeaa
open Go.RowKit

theorem skip_valid {s t : Sm} {id n : Int} (h : skipV s id n = .ok t) : validB t = true := by
  unfold skipV at h
  cases ha : readV s id (decide (0 ≤ n)) with
  | error e' => rw [ha] at h; cases h
  | ok i =>
    obtain ⟨hask, x, hx, hid, hm, hex⟩ := readV_ok ha
    obtain ⟨hv, hok, -, -⟩ := askV_ok hask
    have hn0 : 0 ≤ n := by simpa using hok
    rw [ha] at h
    simp only [hx] at h
    split at h
    · cases h
    rename_i hle
    injection h with h1
    subst h1
    have hg := (good_iff s).1 hv
    obtain ⟨k, hk1, hk2, hk3, hk4, hk5⟩ := valid_file hv hx
    have hp := hk5 hm
    have hsz := restT_size hp
    refine (good_iff _).2 (hg.set1 hx rfl ?_)
    have hst := hg.st x (List.mem_of_getElem? hx)
    unfold validSt at hst ⊢
    simp only [Bool.and_eq_true] at hst ⊢
    refine ⟨hst.1, ?_⟩
    have h1 := hst.2
    have hl : lenAt s.files k = (fileOf s x).text.size := by unfold lenAt; simp [hk2]
    unfold fitsB at h1 ⊢
    show fitsX { x with pos := x.pos + n } (idxI s.files (fileP x.file)) (lenAt s.files (idxI s.files (fileP x.file))) = true
    rw [hk1, hl] at h1
    rw [hk1, hl]
    unfold fitsX at h1 ⊢
    simp only [Bool.and_eq_true, decide_eq_true_eq] at h1 ⊢
    obtain ⟨⟨⟨⟨g1, g2⟩, g3⟩, g4⟩, g5⟩ := h1
    refine ⟨⟨⟨⟨g1, g2⟩, g3⟩, g4⟩, ?_⟩
    simp only [hm, beq_self_eq_true, if_true, Bool.and_eq_true, decide_eq_true_eq, Bool.or_eq_true, Bool.not_eq_true'] at g5 ⊢
    obtain ⟨⟨a1, a2⟩, a3⟩ := g5
    refine ⟨⟨by omega, by omega⟩, ?_⟩
    rcases a3 with a3 | ⟨a3, a4⟩
    · exact .inl a3
    · refine .inr ⟨?_, a4⟩
      simp at a3 ⊢
      omega
theorem peek_valid {s t : Sm} {id c : Int} (h : peekV s id = .ok (t, c)) : validB t = true ∧ t = s := by
  unfold peekV at h
  cases hg : getV s id with
  | error e => rw [hg] at h; cases h
  | ok r =>
    obtain ⟨s1, c1⟩ := r
    rw [hg] at h
    injection h with h
    injection h with h1 h2
    subst h1
    refine ⟨?_, rfl⟩
    unfold getV at hg
    cases ha : readV s id true with
    | error e' => rw [ha] at hg; cases hg
    | ok i => exact (askV_ok (readV_ok ha).1).1
theorem use_valid {s t : Sm} {id : Int} (h : useV s id = .ok t) : validB t = true := by
  unfold useV at h
  cases ha : askV s id true with
  | error e' => rw [ha] at h; cases h
  | ok i =>
    obtain ⟨hv, -, hix, x, hx, hid⟩ := askV_ok ha
    rw [ha] at h
    simp only [hx] at h
    injection h with h1
    subst h1
    have hg := (good_iff s).1 hv
    have hm : modeAt s.opn i = x.mode := by unfold modeAt; simp [hx]
    have hc := hg.cur
    unfold curB at hc
    simp only [Bool.and_eq_true, decide_eq_true_eq] at hc
    obtain ⟨⟨⟨c1, c2⟩, c3⟩, c4⟩ := hc
    unfold useS
    cases hm1 : x.mode == 1
    · refine (good_iff _).2 ⟨hg.nf, hg.no, hg.nx, hg.ord, hg.std, hg.st, hg.pw, ?_⟩
      show curB { s with out := id } = true
      unfold curB
      simp only [hix, hm, hm1, Bool.and_eq_true, decide_eq_true_eq]
      exact ⟨⟨⟨c1, by omega⟩, c3⟩, rfl⟩
    · refine (good_iff _).2 ⟨hg.nf, hg.no, hg.nx, hg.ord, hg.std, hg.st, hg.pw, ?_⟩
      show curB { s with inp := id } = true
      unfold curB
      simp only [hix, hm, hm1, Bool.and_eq_true, decide_eq_true_eq]
      exact ⟨⟨⟨by omega, c2⟩, trivial⟩, c4⟩
theorem set_ord {l : List F} (h : Ord l) {k : Nat} {f f' : F} (hk : l[k]? = some f) (hn : f'.name = f.name) (hf : okF f' = true) : Ord (l.set k f') := by
  refine ⟨fun x hx => ?_, ?_⟩
  · rcases List.mem_or_eq_of_mem_set hx with hx | rfl
    · exact h.ok x hx
    · exact hf
  · have h1 : (l.map (·.name)).Pairwise fun a b => bl a b = true := List.pairwise_map.2 h.pw
    have h2 : (l.set k f').map (·.name) = l.map (·.name) := by
      rw [List.map_set, hn]
      obtain ⟨h3, h4⟩ := List.getElem?_eq_some_iff.1 hk
      subst h4
      have : l[k].name = (l.map (·.name))[k]'(by simpa using h3) := by simp
      rw [this, List.set_getElem_self]
    rw [← h2] at h1
    exact List.pairwise_map.1 h1
theorem findF_set_eq {l : List F} (h : Ord l) {k : Nat} {f f' : F} (hk : l[k]? = some f) (hn : f'.name = f.name) (hf : okF f' = true) : findF (l.set k f') f.name = some f' := by
  rw [findF_iff (set_ord h hk hn hf)]
  exact ⟨List.mem_set (List.getElem?_eq_some_iff.1 hk).1 _, hn⟩
theorem findF_set_ne {l : List F} (h : Ord l) {k : Nat} {f f' g : F} {name : ByteArray} (hk : l[k]? = some f) (hn : f'.name = f.name) (hf : okF f' = true) (hne : name ≠ f.name) (hg : findF l name = some g) : findF (l.set k f') name = some g := by
  rw [findF_iff (set_ord h hk hn hf)]
  obtain ⟨h1, h2⟩ := (findF_iff h).1 hg
  refine ⟨?_, h2⟩
  obtain ⟨j, hj⟩ := List.mem_iff_getElem?.1 h1
  have hjk : j ≠ k := fun e => by
    rw [e, hk] at hj
    injection hj with hj
    exact hne (by rw [← h2, ← hj])
  exact List.mem_of_getElem? (i := j) (by rw [List.getElem?_set, if_neg (fun e => hjk e.symm)]; exact hj)
theorem fit_any {x : G} {n m : Int} (h : fitF x n = true) (hm : (x.mode == 1) = false) : fitF x m = true := by
  unfold fitF at h ⊢
  rw [hm] at h ⊢
  exact h
/-- a file is replaced by one of its name; no stream reads it -/
theorem Good.setF {s : Sm} (h : Good s) {k : Nat} {f f' : F} (hk : s.files[k]? = some f) (hn : f'.name = f.name) (hf : okF f' = true) (hr : ∀ y ∈ s.opn, y.file = f.name → (y.mode == 1) = false) : Good { s with files := s.files.set k f' } := by
  refine ⟨by show (s.files.set k f').length ≤ 16; rw [List.length_set]; exact h.nf, h.no, h.nx, set_ord h.ord hk hn hf, h.std, fun y hy => ?_, h.pw, h.cur⟩
  have h1 := h.st y hy
  unfold validSt at h1 ⊢
  simp only [Bool.and_eq_true] at h1 ⊢
  refine ⟨h1.1, ?_⟩
  have h2 := h1.2
  rw [fits_find] at h2 ⊢
  cases hg : findF s.files y.file with
  | none => rw [hg] at h2; cases h2
  | some g =>
    rw [hg] at h2
    show (match findF (s.files.set k f') y.file with | some f => fitF y f.text.size | none => false) = true
    by_cases hy2 : y.file = f.name
    · rw [hy2, findF_set_eq h.ord hk hn hf]
      exact fit_any h2 (hr y hy hy2)
    · rw [findF_set_ne h.ord hk hn hf hy2 hg]
      exact h2
/-- nobody else has the file of a writer -/
theorem Good.writer {s : Sm} (h : Good s) {x y : G} (hx : x ∈ s.opn) (hy : y ∈ s.opn) (hm : (x.mode == 1) = false) (hf : y.file = x.file) : (y.mode == 1) = false := by
  obtain ⟨i, hi, rfl⟩ := List.mem_iff_getElem.1 hx
  obtain ⟨j, hj, rfl⟩ := List.mem_iff_getElem.1 hy
  rcases Nat.lt_trichotomy i j with hij | rfl | hij
  · have h1 := (List.pairwise_iff_getElem.1 h.pw) i j hi hj hij
    have h2 := and_right h1
    unfold apartB at h2
    rw [hm, hf] at h2
    split at h2
    · cases h2
    · simp at h2
  · exact hm
  · have h1 := (List.pairwise_iff_getElem.1 h.pw) j i hj hi hij
    have h2 := and_right h1
    unfold apartB at h2
    rw [hm, ← hf] at h2
    split at h2
    · cases h2
    · simp at h2
theorem put_valid {s t : Sm} {id : Int} {x : ByteArray} (h : putV s id x = .ok t) : validB t = true := by
  unfold putV at h
  cases ha : askV s id (decide ((x.size : Int) ≤ 16384)) with
  | error e' => rw [ha] at h; cases h
  | ok i =>
    obtain ⟨hv, -, hix, y, hy, hid⟩ := askV_ok ha
    rw [ha] at h
    simp only [hy] at h
    split at h
    · cases h
    rename_i hm
    split at h
    · cases h
    rename_i hle
    injection h with h1
    subst h1
    have hg := (good_iff s).1 hv
    obtain ⟨k, hk1, hk2, hk3, hk4, hk5⟩ := valid_file hv hy
    have hm' : (y.mode == 1) = false := by simpa using hm
    unfold putS
    rw [hk1]
    refine (good_iff _).2 (hg.setF hk2 rfl ?_ fun z hz hzf => ?_)
    · have h2 := hg.ord.ok _ (List.mem_of_getElem? hk2)
      unfold okF at h2 ⊢
      rw [Bool.and_eq_true] at h2 ⊢
      refine ⟨h2.1, ?_⟩
      simp only [ByteArray.size_append, decide_eq_true_eq]
      omega
    · exact hg.writer (List.mem_of_getElem? hy) hz hm' (hzf.trans (name_eq hk3))
end Go.Proofs.Ytklpghpfdeojeaa
