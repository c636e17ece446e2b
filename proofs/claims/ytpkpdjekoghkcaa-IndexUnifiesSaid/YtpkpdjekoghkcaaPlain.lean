/-
  Plain facts on lists of keys: the distinct keys in order of first occurrence, the clauses of variables, the cells of rows.
-/
import Derived.Test.YtpkpdjekoghkcaaWa
namespace Go.Proofs.Ytpkpdjekoghkcaa

/-- the numbers of the first j clauses that match a key -/
def listTo (ks : List K) (k : K) (j : Nat) : List Int := List.map (fun i : Nat => (i : Int)) ((List.range j).filter fun i => (ks[i]?.map (matK · k)).getD false)
theorem listTo_yes {ks : List K} {k x : K} {j : Nat} (hx : ks[j]? = some x) (h : matK x k = true) : listTo ks k (j + 1) = listTo ks k j ++ [(j : Int)] := by
  simp [listTo, List.range_succ, List.filter_append, hx, h]
theorem listTo_no {ks : List K} {k x : K} {j : Nat} (hx : ks[j]? = some x) (h : matK x k = false) : listTo ks k (j + 1) = listTo ks k j := by
  simp [listTo, List.range_succ, List.filter_append, hx, h]
theorem listTo_zero (ks : List K) (k : K) : listTo ks k 0 = [] := rfl
theorem listTo_len (ks : List K) (k : K) (j : Nat) : (listTo ks k j).length ≤ j := by
  unfold listTo; rw [List.length_map]; exact Nat.le_trans (List.length_filter_le _ _) (by simp)

/-- the numbers of the clauses of variables among the first j -/
def restTo (ks : List K) (j : Nat) : List Int := List.map (fun i : Nat => (i : Int)) ((List.range j).filter fun i => (ks[i]?.map (·.kind == 0)).getD false)
theorem restTo_yes {ks : List K} {x : K} {j : Nat} (hx : ks[j]? = some x) (h : (x.kind == 0) = true) : restTo ks (j + 1) = restTo ks j ++ [(j : Int)] := by
  simp [restTo, List.range_succ, List.filter_append, hx, h]
theorem restTo_no {ks : List K} {x : K} {j : Nat} (hx : ks[j]? = some x) (h : (x.kind == 0) = false) : restTo ks (j + 1) = restTo ks j := by
  simp [restTo, List.range_succ, List.filter_append, hx, h]
theorem restTo_len (ks : List K) (j : Nat) : (restTo ks j).length ≤ j := by
  unfold restTo; rw [List.length_map]; exact Nat.le_trans (List.length_filter_le _ _) (by simp)

/-- the distinct keys that are no variable's, among the first j, in order of first occurrence -/
def nubTo (ks : List K) : Nat → List K
  | 0 => []
  | j + 1 => match ks[j]? with
    | some x => if x.kind == 0 || (nubTo ks j).any (K.eqv x ·) then nubTo ks j else nubTo ks j ++ [x]
    | none => nubTo ks j
theorem nubTo_len (ks : List K) (j : Nat) : (nubTo ks j).length ≤ j := by
  induction j with
  | zero => simp [nubTo]
  | succ j ih =>
    unfold nubTo
    split
    · split
      · omega
      · simp; omega
    · omega
theorem nubTo_var {ks : List K} {x : K} {j : Nat} (hx : ks[j]? = some x) (h : (x.kind == 0) = true) : nubTo ks (j + 1) = nubTo ks j := by
  simp [nubTo, hx, h]
theorem nubTo_old {ks : List K} {x : K} {j : Nat} (hx : ks[j]? = some x) (h : (nubTo ks j).any (K.eqv x ·) = true) : nubTo ks (j + 1) = nubTo ks j := by
  rw [nubTo, hx]; simp only []; rw [h]; simp
theorem nubTo_new {ks : List K} {x : K} {j : Nat} (hx : ks[j]? = some x) (h0 : (x.kind == 0) = false) (h : (nubTo ks j).any (K.eqv x ·) = false) : nubTo ks (j + 1) = nubTo ks j ++ [x] := by
  rw [nubTo, hx]; simp only []; rw [h, h0]; simp

theorem nubTo_mem (ks : List K) (x : K) (j : Nat) : x ∈ nubTo ks j ↔ (x.kind ≠ 0 ∧ x ∈ ks.take j) := by
  induction j with
  | zero => simp [nubTo]
  | succ j ih =>
    rw [List.take_add_one]
    cases hx : ks[j]? with
    | none => simp [nubTo, hx, ih]
    | some y =>
      simp only [Option.toList, List.mem_append, List.mem_singleton]
      cases h0 : y.kind == 0
      · cases h1 : (nubTo ks j).any (K.eqv y ·)
        · rw [nubTo_new hx h0 h1, List.mem_append, List.mem_singleton, ih]
          have : y.kind ≠ 0 := by simpa using h0
          constructor
          · rintro (⟨a, b⟩ | rfl)
            · exact ⟨a, .inl b⟩
            · exact ⟨this, .inr rfl⟩
          · rintro ⟨a, b | rfl⟩
            · exact .inl ⟨a, b⟩
            · exact .inr rfl
        · rw [nubTo_old hx h1, ih]
          have hm : y ∈ nubTo ks j := by
            obtain ⟨z, hz, he⟩ := List.any_eq_true.1 h1
            rw [(K.eqv_iff y z).1 he]; exact hz
          constructor
          · rintro ⟨a, b⟩; exact ⟨a, .inl b⟩
          · rintro ⟨a, b | rfl⟩
            · exact ⟨a, b⟩
            · exact ⟨a, (ih.1 hm).2⟩
      · rw [nubTo_var hx h0, ih]
        have : y.kind = 0 := by simpa using h0
        constructor
        · rintro ⟨a, b⟩; exact ⟨a, .inl b⟩
        · rintro ⟨a, b | rfl⟩
          · exact ⟨a, b⟩
          · exact absurd this a

/-- whether a key occurs among the first m -/
def anyTo (ks : List K) (x : K) (m : Nat) : Bool := (ks.take m).any (K.eqv · x)
theorem anyTo_next {ks : List K} {x y : K} {m : Nat} (hy : ks[m]? = some y) : anyTo ks x (m + 1) = (anyTo ks x m || K.eqv y x) := by
  simp [anyTo, List.take_add_one, hy]
theorem anyTo_nub {ks : List K} {x : K} {m : Nat} (h0 : (x.kind == 0) = false) : (nubTo ks m).any (K.eqv x ·) = anyTo ks x m := by
  have h0' : x.kind ≠ 0 := by simpa using h0
  rw [Bool.eq_iff_iff, anyTo, List.any_eq_true, List.any_eq_true]
  constructor
  · rintro ⟨y, hy, he⟩
    have := (K.eqv_iff x y).1 he
    subst this
    exact ⟨x, ((nubTo_mem ks x m).1 hy).2, he⟩
  · rintro ⟨y, hy, he⟩
    have := (K.eqv_iff y x).1 he
    subst this
    exact ⟨y, (nubTo_mem ks y m).2 ⟨h0', hy⟩, he⟩

/-- the cells of rows whose lists are vs i, vs (i + 1), .. -/
def rowCs (vs : Nat → Value) : List K → Nat → List Value
  | [], _ => []
  | x :: t, i => .int .i64 x.kind :: .int .i64 x.n :: .string x.name :: .int .i64 x.ar :: vs i :: rowCs vs t (i + 1)
theorem rowCs_len (vs : Nat → Value) (l : List K) (i : Nat) : (rowCs vs l i).length = l.length * 5 := by
  induction l generalizing i with
  | nil => rfl
  | cons x t ih => simp [rowCs, ih]; omega
theorem rowCs_snoc (vs : Nat → Value) (l : List K) (x : K) (i : Nat) : rowCs vs (l ++ [x]) i = rowCs vs l i ++ [.int .i64 x.kind, .int .i64 x.n, .string x.name, .int .i64 x.ar, vs (i + l.length)] := by
  induction l generalizing i with
  | nil => rfl
  | cons y t ih => simp only [List.cons_append, rowCs, ih, List.length_cons]; simp [Nat.add_assoc, Nat.add_comm 1]
theorem rowCs_congr {vs us : Nat → Value} {l : List K} {i : Nat} (h : ∀ j, i ≤ j → j < i + l.length → vs j = us j) : rowCs vs l i = rowCs us l i := by
  induction l generalizing i with
  | nil => rfl
  | cons y t ih =>
    simp only [rowCs]
    rw [h i (Nat.le_refl _) (by simp), ih (fun j h1 h2 => h j (by omega) (by simp; omega))]
theorem rowCs_at (vs : Nat → Value) {l : List K} {r : Nat} {x : K} (i : Nat) (h : l[r]? = some x) :
    (rowCs vs l i)[r * 5]? = some (.int .i64 x.kind) ∧ (rowCs vs l i)[r * 5 + 1]? = some (.int .i64 x.n) ∧ (rowCs vs l i)[r * 5 + 2]? = some (.string x.name) ∧
    (rowCs vs l i)[r * 5 + 3]? = some (.int .i64 x.ar) ∧ (rowCs vs l i)[r * 5 + 4]? = some (vs (i + r)) := by
  induction l generalizing i r with
  | nil => simp at h
  | cons y t ih =>
    cases r with
    | zero =>
      simp at h
      subst h
      exact ⟨rfl, rfl, rfl, rfl, rfl⟩
    | succ r =>
      simp at h
      have := ih (i + 1) h
      rw [show i + 1 + r = i + (r + 1) from by omega] at this
      simp only [rowCs, show (r + 1) * 5 = r * 5 + 1 + 1 + 1 + 1 + 1 from by omega, show r * 5 + 1 + 1 + 1 + 1 + 1 + 1 = r * 5 + 1 + 1 + 1 + 1 + 1 + 1 from rfl,
        show r * 5 + 1 + 1 + 1 + 1 + 1 + 2 = r * 5 + 2 + 1 + 1 + 1 + 1 + 1 from by omega, show r * 5 + 1 + 1 + 1 + 1 + 1 + 3 = r * 5 + 3 + 1 + 1 + 1 + 1 + 1 from by omega,
        show r * 5 + 1 + 1 + 1 + 1 + 1 + 4 = r * 5 + 4 + 1 + 1 + 1 + 1 + 1 from by omega, List.getElem?_cons_succ]
      exact this

/-- the numbers of the first j clauses -/
def rangeTo (j : Nat) : List Int := List.map (fun i : Nat => (i : Int)) (List.range j)
theorem rangeTo_next (j : Nat) : rangeTo (j + 1) = rangeTo j ++ [(j : Int)] := by simp [rangeTo, List.range_succ]
theorem rangeTo_len (j : Nat) : (rangeTo j).length = j := by simp [rangeTo]
theorem rangeTo_list (ks : List K) (z : K) (hz : (z.kind == 0) = true) : rangeTo ks.length = listTo ks z ks.length := by
  unfold rangeTo listTo
  congr 1
  symm
  rw [List.filter_eq_self]
  intro i hi
  have hi' := List.mem_range.1 hi
  simp [matK, hz, hi']

theorem nubTo_nodup (ks : List K) (j : Nat) : (nubTo ks j).Nodup := by
  induction j with
  | zero => simp [nubTo]
  | succ j ih =>
    cases hx : ks[j]? with
    | none => simpa [nubTo, hx] using ih
    | some x =>
      cases h0 : x.kind == 0
      · cases h1 : (nubTo ks j).any (K.eqv x ·)
        · rw [nubTo_new hx h0 h1, List.nodup_append]
          refine ⟨ih, by simp, fun a ha b hb => ?_⟩
          simp at hb
          subst hb
          rintro rfl
          rw [List.any_eq_false] at h1
          exact h1 a ha ((K.eqv_iff a a).2 rfl)
        · rw [nubTo_old hx h1]; exact ih
      · rw [nubTo_var hx h0]; exact ih
theorem nubTo_kind {ks : List K} {j r : Nat} {x : K} (h : (nubTo ks j)[r]? = some x) : (x.kind == 0) = false := by
  have := ((nubTo_mem ks x j).1 (List.mem_of_getElem? h)).1
  simpa using this
theorem nubTo_has {ks : List K} {j n : Nat} {x : K} (hx : ks[j]? = some x) (h0 : (x.kind == 0) = false) (hj : j < n) : (nubTo ks n).any (K.eqv x ·) = true := by
  rw [List.any_eq_true]
  refine ⟨x, (nubTo_mem ks x n).2 ⟨by simpa using h0, ?_⟩, (K.eqv_iff x x).2 rfl⟩
  rw [List.mem_iff_getElem?]
  exact ⟨j, by rw [List.getElem?_take]; simp [hj, hx]⟩

/-- what the lists hold when j clauses have been entered: all, the variables', each row's -/
def LsOk (ks nub : List K) (j : Nat) (ls : Nat → List Int) : Prop :=
  ls 0 = rangeTo j ∧ ls 1 = restTo ks j ∧ ∀ r x, nub[r]? = some x → ls (2 + r) = listTo ks x j
/-- the same, and clause j has been entered into all, and into the first q rows -/
def LsIn (ks nub : List K) (j q : Nat) (ls : Nat → List Int) : Prop :=
  ls 0 = rangeTo (j + 1) ∧ ls 1 = restTo ks (j + 1) ∧ ∀ r x, nub[r]? = some x → ls (2 + r) = if r < q then listTo ks x (j + 1) else listTo ks x j
end Go.Proofs.Ytpkpdjekoghkcaa
