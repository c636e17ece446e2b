/-
  A slice of keys that a call owns; the keys that an index tells of its clauses.
-/
import Derived.Test.YtpkpdjekoghkcaaPlain
import Derived.Test.YtpkpdjekoghkcaaOf
import Derived.Test.YtpkpdjekoghkcaaWg
import Derived.Test.YtpkpdjekoghkcaaWd
namespace Go.Proofs.Ytpkpdjekoghkcaa
open Go.RowKit

def keyCs : List K → List Value
  | [] => []
  | x :: t => .int .i64 x.kind :: .int .i64 x.n :: .string x.name :: .int .i64 x.ar :: keyCs t
theorem keyCs_len (l : List K) : (keyCs l).length = l.length * 4 := by
  induction l with
  | nil => rfl
  | cons x t ih => simp [keyCs, ih]; omega
theorem keyCs_at {l : List K} {r : Nat} {x : K} (h : l[r]? = some x) :
    (keyCs l)[r * 4]? = some (.int .i64 x.kind) ∧ (keyCs l)[r * 4 + 1]? = some (.int .i64 x.n) ∧ (keyCs l)[r * 4 + 2]? = some (.string x.name) ∧ (keyCs l)[r * 4 + 3]? = some (.int .i64 x.ar) := by
  induction l generalizing r with
  | nil => simp at h
  | cons y t ih =>
    cases r with
    | zero =>
      simp at h
      subst h
      exact ⟨rfl, rfl, rfl, rfl⟩
    | succ r =>
      simp at h
      have := ih h
      simp only [keyCs, show (r + 1) * 4 = r * 4 + 1 + 1 + 1 + 1 from by omega, show r * 4 + 1 + 1 + 1 + 1 + 2 = r * 4 + 2 + 1 + 1 + 1 + 1 from by omega,
        show r * 4 + 1 + 1 + 1 + 1 + 3 = r * 4 + 3 + 1 + 1 + 1 + 1 from by omega, List.getElem?_cons_succ]
      exact this
theorem keyCs_set (l : List K) (r : Nat) (x : K) (hr : r < l.length) :
    ((((keyCs l).set (r * 4) (.int .i64 x.kind)).set (r * 4 + 1) (.int .i64 x.n)).set (r * 4 + 2) (.string x.name)).set (r * 4 + 3) (.int .i64 x.ar) = keyCs (l.set r x) := by
  induction l generalizing r with
  | nil => simp at hr
  | cons y t ih =>
    cases r with
    | zero => rfl
    | succ r =>
      simp at hr
      rw [show (r + 1) * 4 = r * 4 + 1 + 1 + 1 + 1 from by omega, show r * 4 + 1 + 1 + 1 + 1 + 2 = r * 4 + 2 + 1 + 1 + 1 + 1 from by omega, show r * 4 + 1 + 1 + 1 + 1 + 3 = r * 4 + 3 + 1 + 1 + 1 + 1 from by omega]
      simp only [keyCs, List.set_cons_succ]
      rw [ih r hr]
theorem keyCs_made (n : Nat) : (madeCells #[.int .i64 0, .int .i64 0, .string { data := #[] }, .int .i64 0] (n * 4)).toList = keyCs (List.replicate n zeroK) := by
  apply List.ext_getElem?
  intro j
  by_cases hj : j < n * 4
  · have hq : j / 4 < n := by omega
    have hx : (List.replicate n zeroK)[j / 4]? = some zeroK := by simp [hq]
    obtain ⟨h0, h1, h2, h3⟩ := keyCs_at hx
    have hm : j % 4 = 0 ∨ j % 4 = 1 ∨ j % 4 = 2 ∨ j % 4 = 3 := by omega
    simp only [madeCells, Array.toList_map, List.getElem?_map, Array.toList_range, List.getElem?_range, hj, Option.map_some]
    rcases hm with hm | hm | hm | hm
    · rw [show j / 4 * 4 = j from by omega] at h0; rw [h0]; simp [hm, zeroK]
    · rw [show j / 4 * 4 + 1 = j from by omega] at h1; rw [h1]; simp [hm, zeroK]
    · rw [show j / 4 * 4 + 2 = j from by omega] at h2; rw [h2]; simp [hm, zeroK]
    · rw [show j / 4 * 4 + 3 = j from by omega] at h3; rw [h3]; simp [hm, zeroK]
  · have h1 : (keyCs (List.replicate n zeroK))[j]? = none := by rw [List.getElem?_eq_none_iff, keyCs_len]; simp; omega
    rw [h1, List.getElem?_eq_none_iff]; simp [madeCells]; omega

theorem own_keys {w : World} {base n : Nat} {v : Value} {l : List K} (h : w.ownsRow base 35 4 v n (keyCs l)) (hm : n ≤ 281474976710656) :
    ∃ A c, v = .slice A n c ∧ KeysAt w w.heap.size A n l := by
  have hn : l.length = n := by have := h.1; rw [keyCs_len] at this; omega
  rcases h.2 with ⟨rfl, rfl⟩ | ⟨g, cap, cur, rfl, hg, hh, h1, h2, h3, h4⟩
  · exact ⟨none, 0, rfl, ⟨hn, hm⟩, fun h => absurd h (by omega)⟩
  · refine ⟨_, _, rfl, ⟨hn, hm⟩, fun _ => ⟨g, 0, rfl, (h.lt g rfl).2, fun i x hx => ?_⟩⟩
    have hc : ∀ q u, (keyCs l)[q]? = some u → w.cell? ⟨g, 0 + q, none⟩ = some u := fun q u hu => by
      rw [Nat.zero_add, ← h.cells (g := g) rfl q u hu]
      unfold Addr.add
      by_cases hi : q = 0 <;> simp [hi]
    obtain ⟨r0, r1, r2, r3⟩ := keyCs_at hx
    exact ⟨hc _ _ r0, hc _ _ r1, hc _ _ r2, hc _ _ r3⟩

/-- a key stored at its place -/
theorem own_store {w : World} {base n g cap r : Nat} {l : List K} (h : w.ownsRow base 35 4 (.slice (some ⟨g, 0, none⟩) n cap) n (keyCs l)) (x : K) (hr : r < n) :
    ((((w.setCell ⟨g, r * 4, none⟩ (.int .i64 x.kind)).setCell ⟨g, r * 4 + 1, none⟩ (.int .i64 x.n)).setCell ⟨g, r * 4 + 2, none⟩ (.string x.name)).setCell ⟨g, r * 4 + 3, none⟩ (.int .i64 x.ar)).ownsRow base 35 4 (.slice (some ⟨g, 0, none⟩) n cap) n (keyCs (l.set r x)) := by
  have hn : l.length = n := by have := h.1; rw [keyCs_len] at this; omega
  have h1 := (h.stored (r * 4) (.int .i64 x.kind)).1
  have h2 := (h1.stored (r * 4 + 1) (.int .i64 x.n)).1
  have h3 := (h2.stored (r * 4 + 2) (.string x.name)).1
  have h4 := (h3.stored (r * 4 + 3) (.int .i64 x.ar)).1
  rwa [keyCs_set l r x (by omega)] at h4

/-- entering a key for the clauses of a list -/
def stepL (n : Nat) (k : K) (o : Option (List K)) (i : Int) : Option (List K) := o.bind fun ks => if 0 ≤ i ∧ i < n then some (ks.set i.toNat k) else none
def fillL (n : Nat) (k : K) (l : List Int) (ks : List K) : Option (List K) := l.foldl (stepL n k) (some ks)
def stepR (n : Nat) (o : Option (List K)) (r : K × List Int) : Option (List K) := o.bind fun ks => if okK r.1 && decide (r.2.length ≤ n) then fillL n r.1 r.2 ks else none
def fillR (n : Nat) (rows : List (K × List Int)) (ks : List K) : Option (List K) := rows.foldl (stepR n) (some ks)
/-- whether an index is valid, as the index package has it -/
def validIx (x : Ix) : Bool :=
  if 500 < x.all.length || x.all.length < x.rows.length || x.all.length < x.rest.length then false
  else match (fillR x.all.length x.rows (List.replicate x.all.length zeroK)).bind (fillL x.all.length zeroK x.rest) with
    | some ks => sameIx x (ixOf ks)
    | none => false

theorem stepL_none (n : Nat) (k : K) (l : List Int) : l.foldl (stepL n k) none = none := by
  induction l with
  | nil => rfl
  | cons x t ih => simpa [stepL] using ih
theorem stepR_none (n : Nat) (l : List (K × List Int)) : l.foldl (stepR n) none = none := by
  induction l with
  | nil => rfl
  | cons x t ih => simpa [stepR] using ih
theorem fillL_dead {n j : Nat} {k : K} {l : List Int} {ks ks' : List K} {i : Int} (h : fillL n k (l.take j) ks = some ks') (hi : l[j]? = some i) (hb : i < 0 ∨ (n : Int) ≤ i) : fillL n k l ks = none := by
  have e : l = l.take j ++ i :: l.drop (j + 1) := by
    have hlt := (List.getElem?_eq_some_iff.1 hi).1
    have := List.getElem_cons_drop hlt
    rw [(List.getElem?_eq_some_iff.1 hi).2] at this
    rw [this, List.take_append_drop]
  unfold fillL at *
  rw [e, List.foldl_append, h, List.foldl_cons]
  have : stepL n k (some ks') i = none := by simp only [stepL, Option.bind_some]; rw [if_neg (by omega)]
  rw [this, stepL_none]
theorem fillL_next {n j : Nat} {k : K} {l : List Int} {ks ks' : List K} {i : Int} (h : fillL n k (l.take j) ks = some ks') (hi : l[j]? = some i) (h0 : 0 ≤ i) (h1 : i < n) : fillL n k (l.take (j + 1)) ks = some (ks'.set i.toNat k) := by
  rw [List.take_add_one, hi]
  unfold fillL at *
  rw [Option.toList, List.foldl_append, h]
  simp [stepL, h0, h1]
theorem fillL_all {n j : Nat} {k : K} {l : List Int} {ks ks' : List K} (h : fillL n k (l.take j) ks = some ks') (hj : l.length ≤ j) : fillL n k l ks = some ks' := by
  rwa [List.take_of_length_le hj] at h
theorem fillR_dead {n j : Nat} {rows : List (K × List Int)} {ks ks' : List K} {r : K × List Int} (h : fillR n (rows.take j) ks = some ks') (hi : rows[j]? = some r) (hb : stepR n (some ks') r = none) : fillR n rows ks = none := by
  have e : rows = rows.take j ++ r :: rows.drop (j + 1) := by
    have hlt := (List.getElem?_eq_some_iff.1 hi).1
    have := List.getElem_cons_drop hlt
    rw [(List.getElem?_eq_some_iff.1 hi).2] at this
    rw [this, List.take_append_drop]
  unfold fillR at *
  rw [e, List.foldl_append, h, List.foldl_cons, hb, stepR_none]
theorem fillR_next {n j : Nat} {rows : List (K × List Int)} {ks ks' ks2 : List K} {r : K × List Int} (h : fillR n (rows.take j) ks = some ks') (hi : rows[j]? = some r) (hb : stepR n (some ks') r = some ks2) : fillR n (rows.take (j + 1)) ks = some ks2 := by
  rw [List.take_add_one, hi]
  unfold fillR at *
  rw [Option.toList, List.foldl_append, h]
  simpa using hb
end Go.Proofs.Ytpkpdjekoghkcaa
