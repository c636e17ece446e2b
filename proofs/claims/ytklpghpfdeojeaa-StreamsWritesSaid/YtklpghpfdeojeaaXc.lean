/-
  Plain: a valid state, said without loops.
-/
import Derived.Test.YtklpghpfdeojeaaXa
import Derived.Test.YtklpghpfdeojeaaUk
namespace Go.Proofs.Ytklpghpfdeojeaa
open Go.RowKit

structure Good (s : Sm) : Prop where
  nf : s.files.length ≤ 16
  no : s.opn.length ≤ 16
  nx : 2 ≤ s.nxt ∧ s.nxt ≤ 1073741824
  ord : Ord s.files
  std : standardB s.opn = true
  st : ∀ x ∈ s.opn, validSt s x = true
  pw : s.opn.Pairwise fun y x => pairB x y = true
  cur : curB s = true
theorem rows_iff (s : Sm) : ∀ n, n ≤ s.opn.length → (rowsTo s n = true ↔ ∀ i x, i < n → s.opn[i]? = some x → rowB s x (s.opn.take i) = true)
  | 0, _ => ⟨fun _ i x h => absurd h (by omega), fun _ => rfl⟩
  | n + 1, hn => by
    have ih := rows_iff s n (by omega)
    have hx : s.opn[n]? = some (s.opn[n]'(by omega)) := List.getElem?_eq_getElem _
    constructor
    · intro h i x hi hxi
      exact rowsTo_at h i x hi hxi
    · intro h
      have h1 : rowsTo s n = true := ih.2 fun i x hi => h i x (by omega)
      rw [rowsTo_next hx h1]
      exact h n _ (by omega) hx
theorem good_iff (s : Sm) : validB s = true ↔ Good s := by
  constructor
  · intro h
    obtain ⟨h1, h2, h3, h4, h5, h6⟩ := valid_head h
    refine ⟨h1, h2, ⟨h3, h4⟩, ord_of h5, h6, fun x hx => ?_, ?_, and_right h⟩
    · obtain ⟨i, hi⟩ := List.mem_iff_getElem?.1 hx
      exact valid_st h hi
    · rw [List.pairwise_iff_getElem]
      intro i j hi hj hij
      have hr := and_right (valid_row h (List.getElem?_eq_getElem hj))
      rw [List.all_eq_true] at hr
      exact hr _ (List.mem_take_iff_getElem.2 ⟨i, by omega, rfl⟩)
  · intro h
    have hr : rowsTo s s.opn.length = true := (rows_iff s _ (Nat.le_refl _)).2 fun i x hi hx => by
      unfold rowB
      rw [h.st x (List.mem_of_getElem? hx), Bool.true_and, List.all_eq_true]
      intro y hy
      obtain ⟨j, hj, rfl⟩ := List.mem_take_iff_getElem.1 hy
      obtain ⟨h1, h2⟩ := List.getElem?_eq_some_iff.1 hx
      subst h2
      exact (List.pairwise_iff_getElem.1 h.pw) j i (by omega) h1 (by omega)
    unfold validB headB
    rw [hr, h.cur, of_ord h.ord, h.std]
    have h1 := h.nf
    have h2 := h.no
    have h3 := h.nx
    simp
    omega
/-- a stream fits, by the file of its name -/
def fitF (x : G) (n : Int) : Bool :=
  kindB x.mode && kindB x.eof && decide ((x.alias_.size : Int) ≤ 100) &&
  (if x.mode == 1 then decide (0 ≤ x.pos) && decide (x.pos ≤ n) && (!x.past || x.pos == n && !(x.eof == 3)) else x.pos == 0 && !x.past)
def findF (l : List F) (name : ByteArray) : Option F := l.find? (fileP name)
theorem fits_find (s : Sm) (x : G) : fitsB s x = match findF s.files x.file with
  | some f => fitF x f.text.size
  | none => false := by
  unfold fitsB findF
  cases h : s.files.findIdx? (fileP x.file) with
  | none =>
    rw [idxI_none h, List.find?_eq_none.2 (by simpa using List.findIdx?_eq_none_iff.1 h)]
    simp [fitsX]
  | some k =>
    obtain ⟨h1, h2, h3⟩ := List.findIdx?_eq_some_iff_getElem.1 h
    have h4 : s.files.find? (fileP x.file) = some s.files[k] := List.find?_eq_some_iff_getElem.2 ⟨h2, k, h1, rfl, fun j hj => by simpa using h3 j hj⟩
    rw [idxI_some h, h4]
    have h5 : lenAt s.files k = s.files[k].text.size := by unfold lenAt; simp [h1]
    rw [h5]
    simp [fitsX, fitF]
theorem findF_some {l : List F} {name : ByteArray} {f : F} (h : findF l name = some f) : f ∈ l ∧ fileP name f = true := ⟨List.mem_of_find?_eq_some h, List.find?_some h⟩
theorem name_eq {a b : ByteArray} (h : (a.toList == b.toList) = true) : a = b := by
  rw [beq_iff_eq, ByteArray.toList_eq, ByteArray.toList_eq] at h
  exact ByteArray.ext (Array.toList_inj.1 h)
/-- names are different in a row in order -/
theorem ord_uniq {l : List F} (h : Ord l) {x y : F} (hx : x ∈ l) (hy : y ∈ l) (hn : x.name = y.name) : x = y := by
  obtain ⟨i, hi, rfl⟩ := List.mem_iff_getElem.1 hx
  obtain ⟨j, hj, rfl⟩ := List.mem_iff_getElem.1 hy
  rcases Nat.lt_trichotomy i j with hij | rfl | hij
  · have h1 := (List.pairwise_iff_getElem.1 h.pw) i j hi hj hij
    simp only [bl, hn, less_irrefl] at h1
    cases h1
  · rfl
  · have h1 := (List.pairwise_iff_getElem.1 h.pw) j i hj hi hij
    simp only [bl, hn, less_irrefl] at h1
    cases h1
theorem findF_iff {l : List F} (h : Ord l) {name : ByteArray} {f : F} : findF l name = some f ↔ f ∈ l ∧ f.name = name := by
  constructor
  · intro h1
    obtain ⟨h2, h3⟩ := findF_some h1
    exact ⟨h2, name_eq h3⟩
  · rintro ⟨h1, rfl⟩
    cases hf : findF l f.name with
    | none =>
      have h2 := List.find?_eq_none.1 hf f h1
      simp [fileP] at h2
    | some g =>
      obtain ⟨h2, h3⟩ := findF_some hf
      rw [ord_uniq h h2 h1 (name_eq h3)]
/-- what the others look at -/
def norm (x : G) : G := { x with pos := 0, past := false }
theorem pair_norm (x y : G) : pairB (norm x) (norm y) = pairB x y := rfl
theorem idx_map (l : List G) (id : Int) : idxI l (idP id) = idxI (l.map norm) (idP id) := by
  unfold idxI
  rw [List.findIdx?_map]
  rfl
theorem mode_map (l : List G) (k : Int) : modeAt l k = modeAt (l.map norm) k := by
  unfold modeAt
  rw [List.getElem?_map]
  cases l[k.toNat]? <;> rfl
theorem cur_map (s : Sm) (l : List G) (h : l.map norm = s.opn.map norm) : curB { s with opn := l } = curB s := by
  unfold curB
  simp only [idx_map l, idx_map s.opn, mode_map l, mode_map s.opn, h]
theorem std_map (l l' : List G) (h : l'.map norm = l.map norm) : standardB l' = standardB l := by
  match l, l', h with
  | [], [], _ => rfl
  | [_], [_], _ => rfl
  | [], _ :: _, h => simp at h
  | _ :: _, [], h => simp at h
  | [_], _ :: _ :: _, h => simp at h
  | _ :: _ :: _, [_], h => simp at h
  | a :: b :: t, a' :: b' :: t', h =>
    simp only [List.map_cons, List.cons.injEq] at h
    have h1 : stdA (norm a') = stdA (norm a) := by rw [h.1]
    have h2 : stdB (norm b') = stdB (norm b) := by rw [h.2.1]
    show (stdA (norm a') && stdB (norm b')) = (stdA (norm a) && stdB (norm b))
    rw [h1, h2]
theorem Good.alike {s : Sm} (h : Good s) (l : List G) (hm : l.map norm = s.opn.map norm) (hst : ∀ x ∈ l, validSt s x = true) : Good { s with opn := l } := by
  have hlen : l.length = s.opn.length := by have := congrArg List.length hm; simpa using this
  refine ⟨h.nf, by show l.length ≤ 16; rw [hlen]; exact h.no, h.nx, h.ord, (std_map s.opn l hm).trans h.std, hst, ?_, (cur_map s l hm).trans h.cur⟩
  have h1 : (s.opn.map norm).Pairwise fun y x => pairB x y = true := List.pairwise_map.2 h.pw
  rw [← hm] at h1
  exact List.pairwise_map.1 h1
theorem set_norm {l : List G} {i : Nat} {x x' : G} (hx : l[i]? = some x) (h : norm x' = norm x) : (l.set i x').map norm = l.map norm := by
  rw [List.map_set, h]
  obtain ⟨h1, h2⟩ := List.getElem?_eq_some_iff.1 hx
  subst h2
  have : norm l[i] = (l.map norm)[i]'(by simpa using h1) := by simp
  rw [this, List.set_getElem_self]
/-- one stream is replaced by one that is alike and fits -/
theorem Good.set1 {s : Sm} (h : Good s) {i : Nat} {x x' : G} (hx : s.opn[i]? = some x) (hn : norm x' = norm x) (hf : validSt s x' = true) : Good { s with opn := s.opn.set i x' } :=
  h.alike _ (set_norm hx hn) fun y hy => by
    rcases List.mem_or_eq_of_mem_set hy with hy | rfl
    · exact h.st y hy
    · exact hf
theorem get_valid {s t : Sm} {id c : Int} (h : getV s id = .ok (t, c)) : validB t = true := by
  unfold getV at h
  cases ha : readV s id true with
  | error e' => rw [ha] at h; cases h
  | ok i =>
    obtain ⟨hask, x, hx, hid, hm, hex⟩ := readV_ok ha
    obtain ⟨hv, -, -, -⟩ := askV_ok hask
    rw [ha] at h
    simp only [hx] at h
    injection h with h
    injection h with h1 h2
    subst h1
    have hg := (good_iff s).1 hv
    obtain ⟨k, hk1, hk2, hk3, hk4, hk5⟩ := valid_file hv hx
    have hp := hk5 hm
    have hsz := restT_size hp
    refine (good_iff _).2 (hg.set1 hx ?_ ?_)
    · unfold getG; split <;> rfl
    · have hst := hg.st x (List.mem_of_getElem? hx)
      unfold validSt at hst ⊢
      have hids : (getG (getC (restT s x)) x).id = x.id := by unfold getG; split <;> rfl
      rw [hids]
      simp only [Bool.and_eq_true] at hst ⊢
      refine ⟨hst.1, ?_⟩
      have hfi : (getG (getC (restT s x)) x).file = x.file := by unfold getG; split <;> rfl
      have h1 := hst.2
      have hl : lenAt s.files k = (fileOf s x).text.size := by unfold lenAt; simp [hk2]
      unfold fitsB at h1 ⊢
      rw [hk1, hl] at h1
      rw [hfi, hk1, hl]
      unfold fitsX at h1 ⊢
      unfold getG
      simp only [Bool.and_eq_true, decide_eq_true_eq] at h1 ⊢
      by_cases hc : 0 < (restT s x).size
      · have hge : 0 ≤ getC (restT s x) := by unfold getC; rw [dif_pos hc]; omega
        rw [if_pos hge]
        obtain ⟨⟨⟨⟨g1, g2⟩, g3⟩, g4⟩, g5⟩ := h1
        refine ⟨⟨⟨⟨g1, g2⟩, g3⟩, g4⟩, ?_⟩
        simp only [hm, beq_self_eq_true, if_true, Bool.and_eq_true, decide_eq_true_eq, Bool.or_eq_true, Bool.not_eq_true'] at g5 ⊢
        obtain ⟨⟨a1, a2⟩, a3⟩ := g5
        refine ⟨⟨by omega, by omega⟩, ?_⟩
        rcases a3 with a3 | ⟨a3, -⟩
        · exact .inl a3
        · simp at a3; omega
      · have hlt : ¬ 0 ≤ getC (restT s x) := by unfold getC; rw [dif_neg hc]; omega
        rw [if_neg hlt]
        obtain ⟨⟨⟨⟨g1, g2⟩, g3⟩, g4⟩, g5⟩ := h1
        refine ⟨⟨⟨⟨g1, g2⟩, g3⟩, g4⟩, ?_⟩
        simp only [hm, beq_self_eq_true, if_true, Bool.and_eq_true, decide_eq_true_eq, Bool.or_eq_true, Bool.not_eq_true'] at g5 ⊢
        obtain ⟨⟨a1, a2⟩, a3⟩ := g5
        refine ⟨⟨a1, a2⟩, ?_⟩
        cases x.eof == 3
        · refine .inr ⟨?_, rfl⟩
          simp
          omega
        · exact .inl rfl
end Go.Proofs.Ytklpghpfdeojeaa
