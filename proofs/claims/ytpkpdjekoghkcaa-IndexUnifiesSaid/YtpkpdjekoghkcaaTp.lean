/-
  Plain laws: the key of a canonical term; of a term of which an argument was replaced.
-/
import Derived.Test.YtpkpdjekoghkcaaTe
import Derived.Test.YtpkpdjekoghkcaaTl
namespace Go.Proofs.Ytpkpdjekoghkcaa
open Go.RowKit

theorem mapT_id (N : Nat) : ∀ t : Tm, cnt t < N → mapT (fun _ n => n) t = t := by
  induction N with
  | zero => intro t h; omega
  | succ N ih =>
    rintro ⟨k, n, s, l⟩ hN
    have hgo : ∀ l : List Tm, cnt.go l < N → l.map (mapT fun _ n => n) = l := fun l => by
      induction l with
      | nil => intro _; rfl
      | cons x r ihr =>
        intro h
        simp only [cnt.go] at h
        rw [List.map_cons, ih x (by omega), ihr (by omega)]
    rw [mapT_eq]
    simp only [Tm.kind, Tm.n, Tm.name, Tm.args]
    rw [hgo l (by simp only [cnt] at hN; omega)]
theorem mapT_cnt (f : Int → Int → Int) (N : Nat) : ∀ t : Tm, cnt t < N → cnt (mapT f t) = cnt t := by
  induction N with
  | zero => intro t h; omega
  | succ N ih =>
    rintro ⟨k, n, s, l⟩ hN
    have hgo : ∀ l : List Tm, cnt.go l < N → cnt.go (l.map (mapT f)) = cnt.go l := fun l => by
      induction l with
      | nil => intro _; rfl
      | cons x r ihr =>
        intro h
        simp only [cnt.go] at h
        simp only [List.map_cons, cnt.go]
        rw [ih x (by omega), ihr (by omega)]
    rw [mapT_eq]
    simp only [Tm.args, cnt]
    rw [hgo l (by simp only [cnt] at hN; omega)]

/-- each variable's number is in a list -/
def allIn (l : List Int) : Tm → Prop
  | .mk k n _ a => (k = 0 → n ∈ l) ∧ go a
where go : List Tm → Prop
  | [] => True
  | x :: r => allIn l x ∧ go r
theorem allIn_eq (l : List Int) (t : Tm) : allIn l t = ((t.kind = 0 → t.n ∈ l) ∧ allIn.go l t.args) := by cases t; rfl
theorem allIn_more {l m : List Int} (h : ∀ y ∈ l, y ∈ m) (N : Nat) : ∀ t : Tm, cnt t < N → allIn l t → allIn m t := by
  induction N with
  | zero => intro t h; omega
  | succ N ih =>
    rintro ⟨k, n, s, a⟩ hN ⟨h0, h1⟩
    have hgo : ∀ a : List Tm, cnt.go a < N → allIn.go l a → allIn.go m a := fun a => by
      induction a with
      | nil => intro _ _; trivial
      | cons x r ihr =>
        rintro hN ⟨h1, h2⟩
        simp only [cnt.go] at hN
        exact ⟨ih x (by omega) h1, ihr (by omega) h2⟩
    exact ⟨fun e => h _ (h0 e), hgo a (by simp only [cnt] at hN; omega) h1⟩
theorem posI_mem {l : List Int} {y : Int} (h : ¬ posI l y < 0) : y ∈ l := by
  unfold posI at h
  cases hf : l.findIdx? (· == y) with
  | none => rw [hf] at h; simp at h
  | some k =>
    obtain ⟨hlt, he, _⟩ := List.findIdx?_eq_some_iff_getElem.1 hf
    have : l[k] = y := by simpa using he
    rw [← this]; exact List.getElem_mem hlt
theorem posI_nonneg {l : List Int} {y : Int} (h : y ∈ l) : 0 ≤ posI l y := by
  unfold posI
  cases hf : l.findIdx? (· == y) with
  | none => rw [List.findIdx?_eq_none_iff] at hf; have := hf y h; simp at this
  | some k => simp
theorem varsT_in (N : Nat) : ∀ (t : Tm) (l : List Int), cnt t < N → (∀ y ∈ l, y ∈ varsT t l) ∧ allIn (varsT t l) t := by
  induction N with
  | zero => intro t l h; omega
  | succ N ih =>
    intro t l hN
    have hgo : ∀ (a : List Tm) (l : List Int), cnt.go a < N → (∀ y ∈ l, y ∈ varsT.go a l) ∧ allIn.go (varsT.go a l) a := fun a => by
      induction a with
      | nil => intro l _; exact ⟨fun y h => h, trivial⟩
      | cons x r ihr =>
        intro l h
        simp only [cnt.go] at h
        obtain ⟨h1, h2⟩ := ih x l (by omega)
        obtain ⟨h3, h4⟩ := ihr (varsT x l) (by omega)
        exact ⟨fun y hy => h3 y (h1 y hy), allIn_more h3 _ x (Nat.lt_succ_self _) h2, h4⟩
    have hc := cnt_eq t
    obtain ⟨h1, h2⟩ := hgo t.args (vars1 t l) (by omega)
    rw [varsT_eq, allIn_eq]
    refine ⟨fun y hy => h1 y (by unfold vars1; split <;> simp [hy]), fun hk => h1 _ ?_, h2⟩
    unfold vars1
    split
    · simp
    · rename_i hn
      exact posI_mem (fun h => hn ⟨by simp [hk], h⟩)
theorem okT_num {l : List Int} (hl : l.length ≤ 1000000) (N : Nat) : ∀ t : Tm, cnt t < N → allIn l t → okT t = true → okT (mapT (numF l) t) = true := by
  induction N with
  | zero => intro t h; omega
  | succ N ih =>
    rintro ⟨k, n, s, a⟩ hN ⟨h0, h1⟩ hok
    have hgo : ∀ a : List Tm, cnt.go a < N → allIn.go l a → okT.go a = true → okT.go (a.map (mapT (numF l))) = true := fun a => by
      induction a with
      | nil => intro _ _ _; rfl
      | cons x r ihr =>
        rintro hN ⟨h1, h2⟩ h3
        simp only [cnt.go] at hN
        simp only [okT.go, Bool.and_eq_true] at h3
        simp only [List.map_cons, okT.go, Bool.and_eq_true]
        exact ⟨ih x (by omega) h1 h3.1, ihr (by omega) h2 h3.2⟩
    rw [mapT_eq]
    simp only [Tm.kind, Tm.n, Tm.name, Tm.args, okT, Bool.and_eq_true, List.length_map] at hok ⊢
    refine ⟨?_, hgo a (by simp only [cnt] at hN; omega) h1 hok.2⟩
    by_cases hk : k = 0
    · subst hk
      have h2 := posI_nonneg (h0 rfl)
      have h3 := (posI_range l n).2
      have h4 := hok.1
      simp only [nodeB, numF, beq_self_eq_true, if_true, Bool.and_eq_true, decide_eq_true_eq] at h4 ⊢
      exact ⟨⟨⟨h2, by omega⟩, h4.1.2⟩, h4.2⟩
    · have : numF l k n = n := by simp [numF, hk]
      rw [this]; exact hok.1
/-- the canonical form of a valid term -/
def canonT (t : Tm) : Tm := mapT (numF (varsT t [])) t
theorem canon_valid {t : Tm} (h : validT t = true) : validT (canonT t) = true := by
  simp only [validT, Bool.and_eq_true, decide_eq_true_eq] at h ⊢
  unfold canonT
  refine ⟨by rw [mapT_cnt _ _ t (Nat.lt_succ_self _)]; exact h.1, okT_num ?_ _ t (Nat.lt_succ_self _) (varsT_in _ t [] (Nat.lt_succ_self _)).2 h.2⟩
  have := varsT_len _ t [] (Nat.lt_succ_self _)
  simp at this
  omega
theorem key_canon {t : Tm} (h : validT t = true) : keyT (canonT t) = keyT t := by
  have h2 := canon_valid h
  unfold keyT
  rw [h, h2]
  unfold canonT
  rw [mapT_eq]
  obtain ⟨k, n, s, a⟩ := t
  simp only [Tm.kind, Tm.n, Tm.name, Tm.args, List.length_map, if_true]
  by_cases h1 : k = 1
  · subst h1; rfl
  · simp [h1]

theorem cnt_go_set (a : List Tm) (j : Nat) (x : Tm) (hx : cnt x = 1) : cnt.go (a.set j x) ≤ cnt.go a := by
  induction a generalizing j with
  | nil => simp
  | cons y r ih =>
    cases j with
    | zero => simp only [List.set_cons_zero, cnt.go]; have := cnt_pos y; omega
    | succ j => simp only [List.set_cons_succ, cnt.go]; have := ih j; omega
theorem okT_go_set {a : List Tm} (j : Nat) {x : Tm} (hx : okT x = true) (h : okT.go a = true) : okT.go (a.set j x) = true := by
  induction a generalizing j with
  | nil => simpa using h
  | cons y r ih =>
    simp only [okT.go, Bool.and_eq_true] at h
    cases j with
    | zero => simp only [List.set_cons_zero, okT.go, Bool.and_eq_true]; exact ⟨hx, h.2⟩
    | succ j => simp only [List.set_cons_succ, okT.go, Bool.and_eq_true]; exact ⟨h.1, ih j h.2⟩
/-- an integer -/
@[reducible] def three : Tm := .mk 1 3 .empty []
/-- a term with one argument replaced by an integer -/
def setT (t : Tm) (j : Nat) : Tm := .mk t.kind t.n t.name (t.args.set j three)
theorem three_ok : okT three = true := by decide +kernel
theorem set_valid {t : Tm} (h : validT t = true) (j : Nat) : validT (setT t j) = true := by
  obtain ⟨k, n, s, a⟩ := t
  simp only [validT, Bool.and_eq_true, decide_eq_true_eq, okT] at h
  simp only [validT, Bool.and_eq_true, decide_eq_true_eq, setT, Tm.kind, Tm.n, Tm.name, Tm.args, okT, List.length_set, cnt]
  have h1 := cnt_go_set a j three rfl
  have h2 := h.1
  simp only [cnt] at h2
  exact ⟨by omega, h.2.1, okT_go_set j three_ok h.2.2⟩
theorem key_set {t : Tm} (h : validT t = true) (j : Nat) : keyT (setT t j) = keyT t := by
  have h2 := set_valid h j
  unfold keyT
  rw [h, h2]
  obtain ⟨k, n, s, a⟩ := t
  simp only [setT, Tm.kind, Tm.n, Tm.name, Tm.args, List.length_set]
  rfl
theorem key_kind3 {t : Tm} (h : (keyT t).kind = 3) : validT t = true ∧ t.kind = 3 ∧ 1 ≤ t.args.length ∧ t.args.length ≤ 8 := by
  unfold keyT at h
  cases hv : validT t
  · rw [hv] at h; simp [zeroK] at h
  · rw [hv] at h
    simp only [if_true] at h
    by_cases h1 : t.kind = 1
    · simp [h1] at h
    · by_cases h2 : t.kind = 2
      · simp [h2] at h
      · by_cases h3 : t.kind = 3
        · refine ⟨rfl, h3, ?_⟩
          simp only [validT, okT_eq, Bool.and_eq_true] at hv
          have := hv.2.1
          simp [nodeB, h3] at this
          omega
        · simp [h1, h2, h3, zeroK] at h
end Go.Proofs.Ytpkpdjekoghkcaa
