/-
  Plain: what the calls on streams return; what is known of a valid state.
-/
import Derived.Test.YtklpghpfdeojeaaSp
import Derived.Test.YtklpghpfdeojeaaSf
import Derived.Test.YtklpghpfdeojeaaSn
import Derived.Test.YtklpghpfdeojeaaSq
namespace Go.Proofs.Ytklpghpfdeojeaa
open Go.RowKit

def zS : Sm := ⟨[], [], 0, 0, 0⟩
def smOf : Except Int Sm → Sm
  | .ok s => s
  | .error _ => zS
def errOf {α : Type} : Except Int α → Int
  | .ok _ => 0
  | .error e => e
/-- the place of an open stream, or the error -/
def askV (s : Sm) (id : Int) (ok : Bool) : Except Int Nat :=
  if validB s && ok then (match s.opn.findIdx? (idP id) with | some i => .ok i | none => .error 4) else .error 1
def askI : Except Int Nat → Int
  | .ok i => i
  | .error _ => 0
theorem idxI_some {α : Type} {l : List α} {p : α → Bool} {i : Nat} (h : l.findIdx? p = some i) : idxI l p = i := by simp [idxI, h]
theorem idxI_none {α : Type} {l : List α} {p : α → Bool} (h : l.findIdx? p = none) : idxI l p = -1 := by simp [idxI, h]
theorem askV_ok {s : Sm} {id : Int} {ok : Bool} {i : Nat} (h : askV s id ok = .ok i) : validB s = true ∧ ok = true ∧ idxI s.opn (idP id) = i ∧ ∃ x, s.opn[i]? = some x ∧ x.id = id := by
  unfold askV at h
  split at h
  · rename_i hv
    rw [Bool.and_eq_true] at hv
    cases hf : s.opn.findIdx? (idP id) with
    | none => rw [hf] at h; cases h
    | some j =>
      rw [hf] at h
      injection h with h
      subst h
      obtain ⟨hlt, he, -⟩ := List.findIdx?_eq_some_iff_getElem.1 hf
      exact ⟨hv.1, hv.2, idxI_some hf, _, List.getElem?_eq_getElem hlt, by simpa using he⟩
  · cases h
theorem askV_err {s : Sm} {id : Int} {ok : Bool} {e : Int} (h : askV s id ok = .error e) : (e = 1 ∧ (validB s = false ∨ validB s = true ∧ ok = false)) ∨ (e = 4 ∧ validB s = true ∧ ok = true ∧ idxI s.opn (idP id) = -1) := by
  unfold askV at h
  split at h
  · rename_i hv
    rw [Bool.and_eq_true] at hv
    cases hf : s.opn.findIdx? (idP id) with
    | none =>
      rw [hf] at h
      injection h with h
      exact .inr ⟨h.symm, hv.1, hv.2, idxI_none hf⟩
    | some j => rw [hf] at h; cases h
  · rename_i hv
    injection h with h
    refine .inl ⟨h.symm, ?_⟩
    cases h1 : validB s
    · exact .inl rfl
    · refine .inr ⟨rfl, ?_⟩
      rw [h1] at hv
      simpa using hv

/-- the file of a stream -/
def fileOf (s : Sm) (x : G) : F := match s.files[(idxI s.files (fileP x.file)).toNat]? with | some f => f | none => ⟨.empty, .empty⟩
/-- what a stream has not read -/
def restT (s : Sm) (x : G) : ByteArray := (fileOf s x).text.extract x.pos.toNat (fileOf s x).text.size
/-- an input stream that is not exhausted, or the error -/
def readV (s : Sm) (id : Int) (ok : Bool) : Except Int Nat :=
  match askV s id ok with
  | .error e => .error e
  | .ok i => match s.opn[i]? with
    | some x => if x.mode != 1 || x.past && x.eof == 1 then .error 5 else .ok i
    | none => .error 5
def restV (s : Sm) (id : Int) (ok : Bool) : ByteArray := match readV s id ok with
  | .ok i => (match s.opn[i]? with | some x => restT s x | none => .empty)
  | .error _ => .empty
theorem readV_ok {s : Sm} {id : Int} {ok : Bool} {i : Nat} (h : readV s id ok = .ok i) : askV s id ok = .ok i ∧ ∃ x, s.opn[i]? = some x ∧ x.id = id ∧ x.mode = 1 ∧ (x.past && x.eof == 1) = false := by
  unfold readV at h
  cases ha : askV s id ok with
  | error e => rw [ha] at h; cases h
  | ok j =>
    obtain ⟨-, -, -, x, hx, hid⟩ := askV_ok ha
    rw [ha] at h
    simp only [hx] at h
    split at h
    · cases h
    · rename_i hm
      injection h with h
      subst h
      rw [Bool.or_eq_true, not_or] at hm
      exact ⟨rfl, x, hx, hid, by simpa using hm.1, by simpa using hm.2⟩
theorem readV_err {s : Sm} {id : Int} {ok : Bool} {e : Int} (h : readV s id ok = .error e) : (askV s id ok = .error e) ∨ (e = 5 ∧ ∃ i x, askV s id ok = .ok i ∧ s.opn[i]? = some x ∧ x.id = id ∧ (x.mode != 1 || x.past && x.eof == 1) = true) := by
  unfold readV at h
  cases ha : askV s id ok with
  | error e' => rw [ha] at h; exact .inl h
  | ok j =>
    obtain ⟨-, -, -, x, hx, hid⟩ := askV_ok ha
    rw [ha] at h
    simp only [hx] at h
    split at h
    · rename_i hm
      injection h with h
      exact .inr ⟨h.symm, j, x, rfl, hx, hid, hm⟩
    · cases h

theorem and_left {a b : Bool} (h : (a && b) = true) : a = true := (Bool.and_eq_true_iff.1 h).1
theorem and_right {a b : Bool} (h : (a && b) = true) : b = true := (Bool.and_eq_true_iff.1 h).2
theorem valid_head {s : Sm} (h : validB s = true) : s.files.length ≤ 16 ∧ s.opn.length ≤ 16 ∧ 2 ≤ s.nxt ∧ s.nxt ≤ 1073741824 ∧ orderedB s.files = true ∧ standardB s.opn = true := by
  have h := and_left (and_left h)
  simp only [headB, Bool.and_eq_true, decide_eq_true_eq] at h
  obtain ⟨⟨⟨⟨⟨h1, h2⟩, h3⟩, h4⟩, h5⟩, h6⟩ := h
  exact ⟨by omega, by omega, h3, h4, h5, h6⟩
theorem rowsTo_at {s : Sm} : ∀ {n : Nat}, rowsTo s n = true → ∀ i x, i < n → s.opn[i]? = some x → rowB s x (s.opn.take i) = true
  | 0, _, _, _, h, _ => absurd h (by omega)
  | n + 1, h, i, x, hi, hx => by
    rw [rowsTo, Bool.and_eq_true] at h
    rcases Nat.lt_or_ge i n with h1 | h1
    · exact rowsTo_at h.1 i x h1 hx
    · obtain rfl : i = n := by omega
      have h2 := h.2
      rw [hx] at h2
      exact h2
theorem valid_row {s : Sm} (h : validB s = true) {i : Nat} {x : G} (hx : s.opn[i]? = some x) : rowB s x (s.opn.take i) = true :=
  rowsTo_at (and_right (and_left h)) i x (List.getElem?_eq_some_iff.1 hx).1 hx
theorem valid_st {s : Sm} (h : validB s = true) {i : Nat} {x : G} (hx : s.opn[i]? = some x) : validSt s x = true := and_left (valid_row h hx)
theorem ordered_at {l : List F} : ∀ {n : Nat}, orderedTo l n = true → ∀ i x, i < n → l[i]? = some x → ordAt (prevOf l i) x = true
  | 0, _, _, _, h, _ => absurd h (by omega)
  | n + 1, h, i, x, hi, hx => by
    rw [orderedTo, Bool.and_eq_true] at h
    rcases Nat.lt_or_ge i n with h1 | h1
    · exact ordered_at h.1 i x h1 hx
    · obtain rfl : i = n := by omega
      have h2 := h.2
      rw [hx] at h2
      exact h2
theorem ordered_text {l : List F} (h : orderedB l = true) {i : Nat} {x : F} (hx : l[i]? = some x) : x.text.size ≤ 16384 := by
  have h1 := ordered_at h i x (List.getElem?_eq_some_iff.1 hx).1 hx
  have h2 := and_right (and_left h1)
  simp only [decide_eq_true_eq] at h2
  omega
/-- the file of a stream of a valid state -/
theorem valid_file {s : Sm} (h : validB s = true) {i : Nat} {x : G} (hx : s.opn[i]? = some x) :
    ∃ k : Nat, idxI s.files (fileP x.file) = k ∧ s.files[k]? = some (fileOf s x) ∧ fileP x.file (fileOf s x) = true ∧ (fileOf s x).text.size ≤ 16384 ∧ (x.mode = 1 → 0 ≤ x.pos ∧ x.pos ≤ ((fileOf s x).text.size : Int)) := by
  have h1 := and_right (valid_st h hx)
  unfold fitsB at h1
  rcases idxI_cases s.files (fileP x.file) with ⟨he, -⟩ | ⟨k, f, he, hk, hf, hp⟩
  · rw [he] at h1
    simp [fitsX] at h1
  · have hfo : fileOf s x = f := by unfold fileOf; rw [he]; simp [hf]
    refine ⟨k, he, by rw [hfo]; exact hf, by rw [hfo]; exact hp, by rw [hfo]; exact ordered_text (valid_head h).2.2.2.2.1 hf, fun hm => ?_⟩
    have hl : lenAt s.files k = f.text.size := by unfold lenAt; simp [hf]
    rw [he, hl] at h1
    rw [hfo]
    have h2 := and_right h1
    rw [hm] at h2
    simp only [Bool.and_eq_true, decide_eq_true_eq, beq_self_eq_true, if_true] at h2
    omega
end Go.Proofs.Ytklpghpfdeojeaa
