/-
  Plain: Close and Open leave a valid state valid.
-/
import Derived.Test.YtklpghpfdeojeaaXd
namespace Go.Proofs.Ytklpghpfdeojeaa
open Go.RowKit

theorem pw_id {l : List G} (h : l.Pairwise fun y x => pairB x y = true) {x y : G} (hx : x ∈ l) (hy : y ∈ l) (e : x.id = y.id) : x = y := by
  obtain ⟨i, hi, rfl⟩ := List.mem_iff_getElem.1 hx
  obtain ⟨j, hj, rfl⟩ := List.mem_iff_getElem.1 hy
  rcases Nat.lt_trichotomy i j with hij | rfl | hij
  · have h1 := and_left ((List.pairwise_iff_getElem.1 h) i j hi hj hij)
    simp only [decide_eq_true_eq] at h1
    omega
  · rfl
  · have h1 := and_left ((List.pairwise_iff_getElem.1 h) j i hj hi hij)
    simp only [decide_eq_true_eq] at h1
    omega
theorem mode_at {l : List G} (h : l.Pairwise fun y x => pairB x y = true) {x : G} (hx : x ∈ l) : 0 ≤ idxI l (idP x.id) ∧ modeAt l (idxI l (idP x.id)) = x.mode := by
  rcases idxI_cases l (idP x.id) with ⟨-, h1⟩ | ⟨k, y, h1, h2, h3, h4⟩
  · have := h1 x hx
    simp [idP] at this
  · rw [h1]
    refine ⟨by omega, ?_⟩
    have h5 : y = x := pw_id h (List.mem_of_getElem? h3) hx (by simpa using h4)
    unfold modeAt
    simp [h3, h5]
theorem cur_of {s : Sm} (h : s.opn.Pairwise fun y x => pairB x y = true) {x y : G} (hx : x ∈ s.opn) (hxi : x.id = s.inp) (hxm : (x.mode == 1) = true) (hy : y ∈ s.opn) (hyi : y.id = s.out) (hym : (y.mode == 1) = false) : curB s = true := by
  obtain ⟨h1, h2⟩ := mode_at h hx
  obtain ⟨h3, h4⟩ := mode_at h hy
  rw [hxi] at h1 h2
  rw [hyi] at h3 h4
  unfold curB
  simp only [h2, h4, hxm, hym, Bool.and_eq_true, decide_eq_true_eq]
  exact ⟨⟨⟨h1, h3⟩, trivial⟩, rfl⟩
theorem of_cur {s : Sm} (h : curB s = true) : (∃ x ∈ s.opn, x.id = s.inp ∧ (x.mode == 1) = true) ∧ ∃ y ∈ s.opn, y.id = s.out ∧ (y.mode == 1) = false := by
  unfold curB at h
  simp only [Bool.and_eq_true, decide_eq_true_eq] at h
  obtain ⟨⟨⟨c1, c2⟩, c3⟩, c4⟩ := h
  constructor
  · rcases idxI_cases s.opn (idP s.inp) with ⟨h1, -⟩ | ⟨k, x, h1, h2, h3, h4⟩
    · omega
    · refine ⟨x, List.mem_of_getElem? h3, by simpa using h4, ?_⟩
      rw [h1] at c3
      unfold modeAt at c3
      simpa [h3] using c3
  · rcases idxI_cases s.opn (idP s.out) with ⟨h1, -⟩ | ⟨k, x, h1, h2, h3, h4⟩
    · omega
    · refine ⟨x, List.mem_of_getElem? h3, by simpa using h4, ?_⟩
      rw [h1] at c4
      unfold modeAt at c4
      simpa [h3] using c4
theorem std_two {l : List G} (h : standardB l = true) : ∃ a b t, l = a :: b :: t ∧ a.id = 0 ∧ b.id = 1 ∧ (a.mode == 1) = true ∧ (b.mode == 1) = false := by
  match l, h with
  | a :: b :: t, h =>
    have h1 := and_left h
    have h2 := and_right h
    simp only [stdA, stdB, Bool.and_eq_true, beq_iff_eq] at h1 h2
    refine ⟨a, b, t, rfl, h1.1.1.1.1, h2.1.1.1.1, by rw [h1.1.1.2]; rfl, by rw [h2.1.1.2]; rfl⟩
theorem std_front {a b : G} {t t' : List G} (h : standardB (a :: b :: t) = true) : standardB (a :: b :: t') = true := h
theorem close_valid {s t : Sm} {id : Int} (h : closeV s id = .ok t) : validB t = true := by
  unfold closeV at h
  cases ha : askV s id true with
  | error e' => rw [ha] at h; cases h
  | ok i =>
    obtain ⟨hv, -, hix, x, hx, hid⟩ := askV_ok ha
    rw [ha] at h
    simp only [] at h
    split at h
    · cases h
    rename_i hid2
    injection h with h1
    subst h1
    have hg := (good_iff s).1 hv
    obtain ⟨a, b, tl, hl, ha0, hb1, ham, hbm⟩ := std_two hg.std
    have hi2 : 2 ≤ i := by
      rcases Nat.lt_or_ge i 2 with hlt | hge
      · exfalso
        rw [hl] at hx
        match i, hlt with
        | 0, _ => simp at hx; subst hx; omega
        | 1, _ => simp at hx; subst hx; omega
      · exact hge
    obtain ⟨i', rfl⟩ : ∃ i', i = i' + 2 := ⟨i - 2, by omega⟩
    have hpw : (s.opn.eraseIdx (i' + 2)).Pairwise fun y x => pairB x y = true := hg.pw.sublist (List.eraseIdx_sublist ..)
    have hle : s.opn.eraseIdx (i' + 2) = a :: b :: tl.eraseIdx i' := by rw [hl]; rfl
    have hstay : ∀ y ∈ s.opn, y.id ≠ id → y ∈ s.opn.eraseIdx (i' + 2) := fun y hy hne => by
      obtain ⟨j, hj, rfl⟩ := List.mem_iff_getElem.1 hy
      rw [List.mem_eraseIdx_iff_getElem]
      refine ⟨j, hj, fun e => ?_, rfl⟩
      subst e
      obtain ⟨h5, h6⟩ := List.getElem?_eq_some_iff.1 hx
      rw [h6] at hne
      exact hne hid
    obtain ⟨⟨p, hp1, hp2, hp3⟩, q, hq1, hq2, hq3⟩ := of_cur hg.cur
    have hmem_a : a ∈ s.opn.eraseIdx (i' + 2) := by rw [hle]; simp
    have hmem_b : b ∈ s.opn.eraseIdx (i' + 2) := by rw [hle]; simp
    refine (good_iff _).2 ⟨hg.nf, ?_, hg.nx, hg.ord, ?_, fun y hy => ?_, hpw, ?_⟩
    · show (s.opn.eraseIdx (i' + 2)).length ≤ 16
      have := List.length_eraseIdx_le s.opn (i' + 2)
      have := hg.no
      omega
    · show standardB (s.opn.eraseIdx (i' + 2)) = true
      have h5 := hg.std
      rw [hl] at h5
      rw [hle]; exact std_front h5
    · exact hg.st y (List.mem_of_mem_eraseIdx hy)
    · have hA : ∃ p' ∈ s.opn.eraseIdx (i' + 2), p'.id = (closeS s (i' + 2) id).inp ∧ (p'.mode == 1) = true := by
        unfold closeS
        by_cases e : s.inp = id
        · exact ⟨a, hmem_a, by simp [e, ha0], ham⟩
        · exact ⟨p, hstay p hp1 (by rw [hp2]; exact e), by simp [e, hp2], hp3⟩
      have hB : ∃ q' ∈ s.opn.eraseIdx (i' + 2), q'.id = (closeS s (i' + 2) id).out ∧ (q'.mode == 1) = false := by
        unfold closeS
        by_cases e : s.out = id
        · exact ⟨b, hmem_b, by simp [e, hb1], hbm⟩
        · exact ⟨q, hstay q hq1 (by rw [hq2]; exact e), by simp [e, hq2], hq3⟩
      obtain ⟨p', hp1', hp2', hp3'⟩ := hA
      obtain ⟨q', hq1', hq2', hq3'⟩ := hB
      exact cur_of (s := closeS s (i' + 2) id) hpw hp1' hp2' hp3' hq1' hq2' hq3'
theorem openV_ok {s t : Sm} {name al : ByteArray} {mode eof c : Int} (h : openV s name mode al eof = .ok (t, c)) :
    validB s = true ∧ namedB name = true ∧ kindB mode = true ∧ (al.size : Int) ≤ 100 ∧ kindB eof = true ∧ (idxI s.files (fileP name) < 0 → (mode == 1) = false) ∧ (∀ y ∈ s.opn, apartB (openX s name mode al eof) y = true) ∧
      s.opn.length < 16 ∧ s.nxt ≠ 1073741824 ∧ (idxI s.files (fileP name) < 0 → s.files.length < 16) ∧ t = openS s name mode al eof ∧ c = s.nxt := by
  unfold openV at h
  split at h
  · rename_i harg
    split at h
    · cases h
    rename_i h4
    split at h
    · cases h
    rename_i h5
    split at h
    · cases h
    rename_i hfull
    injection h with h
    injection h with h1 h2
    unfold openArg at harg
    simp only [Bool.and_eq_true, decide_eq_true_eq] at harg
    unfold openFull at hfull
    simp only [Bool.or_eq_true, Bool.and_eq_true, decide_eq_true_eq, beq_iff_eq, not_or, not_and] at hfull
    refine ⟨harg.1.1.1.1, harg.1.1.1.2, harg.1.1.2, harg.1.2, harg.2, fun hj => ?_, fun y hy => ?_, by omega, hfull.1.2, fun hj => by have := hfull.2 hj; omega, h1.symm, h2.symm⟩
    · cases hm : mode == 1
      · rfl
      · exact absurd (by rw [hm]; simpa using hj) h4
    · have := idx_neg (l := s.opn) (p := apP (openX s name mode al eof)) (by omega) y hy
      unfold apP at this
      simpa using this
  · cases h
theorem open_valid {s t : Sm} {name al : ByteArray} {mode eof c : Int} (h : openV s name mode al eof = .ok (t, c)) : validB t = true := by
  obtain ⟨hv, hnm, hkm, hal, hke, hj1, hap, h16, hnx, hf16, rfl, -⟩ := openV_ok h
  have hg := (good_iff s).1 hv
  -- the files behind Open: in order; the old streams fit; the name is there
  have key : Ord (openF s.files name mode) ∧ (openF s.files name mode).length ≤ 16 ∧ (∀ y ∈ s.opn, fitsB { s with files := openF s.files name mode } y = true) ∧ ∃ f, findF (openF s.files name mode) name = some f := by
    have hold : ∀ y ∈ s.opn, ∃ g, findF s.files y.file = some g ∧ fitF y g.text.size = true := fun y hy => by
      have h1 := and_right (hg.st y hy)
      rw [fits_find] at h1
      cases hq : findF s.files y.file with
      | none => rw [hq] at h1; cases h1
      | some g => rw [hq] at h1; exact ⟨g, rfl, h1⟩
    by_cases hj : idxI s.files (fileP name) < 0
    · rw [openF_new hj]
      have hno := idx_neg hj
      have ho : Ord (insF s.files ⟨name, ⟨#[]⟩⟩) := insF_ord hg.ord (by unfold okF; rw [show namedB (F.mk name ⟨#[]⟩).name = true from hnm]; rfl) hno
      refine ⟨ho, by rw [insF_len]; have := hf16 hj; omega, fun y hy => ?_, ⟨name, ⟨#[]⟩⟩, (findF_iff ho).2 ⟨insF_mem.2 (.inl rfl), rfl⟩⟩
      obtain ⟨g, hg1, hg2⟩ := hold y hy
      obtain ⟨hg3, hg4⟩ := (findF_iff hg.ord).1 hg1
      rw [fits_find]
      show (match findF (insF s.files ⟨name, ⟨#[]⟩⟩) y.file with | some f => fitF y f.text.size | none => false) = true
      rw [(findF_iff ho).2 ⟨insF_mem.2 (.inr hg3), hg4⟩]
      exact hg2
    · rcases idxI_cases s.files (fileP name) with ⟨h1, -⟩ | ⟨k, f, h1, h2, h3, h4⟩
      · omega
      have hfn : f.name = name := name_eq h4
      have hfound : findF s.files name = some f := (findF_iff hg.ord).2 ⟨List.mem_of_getElem? h3, hfn⟩
      cases hm : mode == 2
      · rw [openF_keep hj hm]
        refine ⟨hg.ord, hg.nf, fun y hy => and_right (hg.st y hy), f, hfound⟩
      · rw [openF_write h1 h3 hm]
        have hok : okF { f with text := ⟨#[]⟩ } = true := by
          have := hg.ord.ok f (List.mem_of_getElem? h3)
          unfold okF at this ⊢
          rw [show namedB (F.mk f.name ⟨#[]⟩).name = true from and_left this]; rfl
        have hm1 : (mode == 1) = false := by
          have : mode = 2 := by simpa using hm
          rw [this]; rfl
        refine ⟨set_ord hg.ord h3 rfl hok, by rw [List.length_set]; exact hg.nf, fun y hy => ?_, { f with text := ⟨#[]⟩ }, ?_⟩
        · have hgs := hg.setF h3 (f' := { f with text := ⟨#[]⟩ }) rfl hok (fun z hz hzf => by
            have h5 := hap z hz
            unfold apartB at h5
            have h6 : eqS (openX s name mode al eof).file z.file = true := by
              show (name.toList == z.file.toList) = true
              rw [hzf, hfn]; simp
            rw [h6, show ((openX s name mode al eof).mode == 1) = false from hm1] at h5
            split at h5
            · cases h5
            · simp at h5)
          exact and_right (hgs.st y hy)
        · exact (findF_iff (set_ord (f' := { f with text := ⟨#[]⟩ }) hg.ord h3 rfl hok)).2
            ⟨List.mem_set h2 _, hfn⟩
  obtain ⟨k1, k2, k3, f, k4⟩ := key
  obtain ⟨a, b, tl, hl, ha0, hb1, ham, hbm⟩ := std_two hg.std
  have hpw : (s.opn ++ [openX s name mode al eof]).Pairwise fun y x => pairB x y = true := by
    rw [List.pairwise_append]
    refine ⟨hg.pw, List.pairwise_singleton _ _, fun y hy x hx => ?_⟩
    rw [List.mem_singleton] at hx
    subst hx
    unfold pairB
    rw [hap y hy, Bool.and_true]
    have h1 := and_left (hg.st y hy)
    simp only [Bool.and_eq_true, decide_eq_true_eq] at h1
    simpa using h1.2
  obtain ⟨⟨p, hp1, hp2, hp3⟩, q, hq1, hq2, hq3⟩ := of_cur hg.cur
  have hnx2 := hg.nx
  refine (good_iff _).2 ⟨k2, ?_, ⟨by show 2 ≤ s.nxt + 1; omega, by show s.nxt + 1 ≤ _; omega⟩, k1, ?_, fun y hy => ?_, hpw, ?_⟩
  · show (s.opn ++ [_]).length ≤ 16
    rw [List.length_append]
    simp only [List.length_cons, List.length_nil]
    omega
  · show standardB (s.opn ++ [_]) = true
    have h5 := hg.std
    rw [hl] at h5 ⊢
    exact std_front h5
  · have hy : y ∈ s.opn ++ [openX s name mode al eof] := hy
    rw [List.mem_append, List.mem_singleton] at hy
    unfold validSt
    rcases hy with hy | rfl
    · have h1 := and_left (hg.st y hy)
      simp only [Bool.and_eq_true, decide_eq_true_eq] at h1
      have h2 : fitsB (openS s name mode al eof) y = true := k3 y hy
      rw [h2]
      have h3 : y.id < s.nxt + 1 := by omega
      simp only [Bool.and_true, Bool.and_eq_true, decide_eq_true_eq]
      exact ⟨h1.1, h3⟩
    · have h2 : fitsB (openS s name mode al eof) (openX s name mode al eof) = true := by
        rw [fits_find]
        show (match findF (openF s.files name mode) name with | some f => fitF (openX s name mode al eof) f.text.size | none => false) = true
        rw [k4]
        show fitF (openX s name mode al eof) f.text.size = true
        unfold fitF
        show (kindB mode && kindB eof && decide ((al.size : Int) ≤ 100) && (if mode == 1 then decide ((0 : Int) ≤ 0) && decide ((0 : Int) ≤ f.text.size) && (!false || (0 : Int) == f.text.size && !(eof == 3)) else (0 : Int) == 0 && !false)) = true
        rw [hkm, hke, decide_eq_true hal]
        split <;> simp
      rw [h2]
      show (decide (0 ≤ s.nxt) && decide (s.nxt < s.nxt + 1) && true) = true
      simp
      omega
  · exact cur_of (s := openS s name mode al eof) hpw (List.mem_append_left _ hp1) hp2 hp3 (List.mem_append_left _ hq1) hq2 hq3
end Go.Proofs.Ytklpghpfdeojeaa
