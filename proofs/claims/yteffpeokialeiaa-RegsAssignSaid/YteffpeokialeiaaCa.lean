/-
  Plain: what regs.allocate computes, by the temporaries.
-/
import Derived.Test.YteffpeokialeiaaBf
namespace Go.Proofs.Yteffpeokialeiaa
open Go.RowKit

def segOf (l : List In) : Seg := l.map fun x => (rdOf x, wrOf x)
theorem kd_lists {x : In} (h : fo x = true) : (rdOf x).Nodup ∧ (wrOf x).Nodup := by
  have pr : ∀ r a : Int, (if [r].contains a then [r] else [r, a]).Nodup := fun r a => by
    split
    · simp
    · rename_i h; simp at h; simp; exact fun e => h e.symm
  have rg : ∀ n : Nat, ((List.range n).map fun i : Nat => (i : Int) + 1).Nodup := fun n => by
    refine List.pairwise_map.2 (List.nodup_range.imp ?_)
    intro a b hab; omega
  rcases kinds h with h | h | h | h | h | h | h | h | h | ⟨h, _⟩
  all_goals
    obtain ⟨_, hr, hw⟩ := h.ren x.r x.a h.r h.a
    have e : ({ x with r := x.r, a := x.a } : In) = x := rfl
    rw [e] at hr hw
    rw [hr, hw]
    refine ⟨?_, ?_⟩ <;> first | exact pr _ _ | exact rg _ | simp
theorem lastO_le (base : Int) : ∀ (t : List In) (k : Nat) (f : Int → Option Nat) (y : Int), (lastOFrom base t k f y = f y) ∨ ∃ j, lastOFrom base t k f y = some j ∧ k ≤ j
  | [], _, _, _ => .inl rfl
  | x :: t, k, f, y => by
    show (lastOFrom base t (k + 1) (lastOG base f k (rdOf x ++ wrOf x)) y = f y) ∨ ∃ j, lastOFrom base t (k + 1) (lastOG base f k (rdOf x ++ wrOf x)) y = some j ∧ k ≤ j
    rcases lastO_le base t (k + 1) (lastOG base f k (rdOf x ++ wrOf x)) y with h | ⟨j, h, hj⟩
    · rw [h]
      unfold lastOG
      split
      · exact .inr ⟨k, rfl, Nat.le_refl _⟩
      · exact .inl rfl
    · exact .inr ⟨j, h, by omega⟩
theorem fit_from (base : Int) (la : Int → Nat) : ∀ (t : List In) (k : Nat) (f : Int → Option Nat) (seen : List Int), (∀ y, la y = (lastOFrom base t k f y).getD 0) →
    (∀ y ∈ seen, base < y → ∃ i, f y = some i ∧ i < k) → (∀ y i, f y = some i → i < k) → vl base t seen = true → Fit la base k (segOf t) (fun y => y ∈ seen)
  | [], _, _, _, _, _, _, _ => trivial
  | x :: t, k, f, seen, hla, hs, hf, hv => by
    unfold vl at hv
    simp only [Bool.and_eq_true, Bool.not_eq_true'] at hv
    obtain ⟨hb, hr, hv⟩ := hv
    have hfo : fo x = true := by
      unfold badB at hb
      simp only [Bool.or_eq_false_iff, Bool.not_eq_false'] at hb
      exact hb.1
    obtain ⟨n1, n2⟩ := kd_lists hfo
    have hla' : ∀ y, la y = (lastOFrom base t (k + 1) (lastOG base f k (rdOf x ++ wrOf x)) y).getD 0 := hla
    refine ⟨n1, n2, fun y hy hby => ?_, fun y hby hy => ?_, fun y hby hy hk => ?_, ?_⟩
    · unfold readB at hr
      have := List.all_eq_true.1 hr y hy
      simpa [hby] using this
    · have ho : lastOG base f k (rdOf x ++ wrOf x) y = some k := by unfold lastOG; rw [if_pos (by simp [hby, hy])]
      rw [hla' y]
      rcases lastO_le base t (k + 1) (lastOG base f k (rdOf x ++ wrOf x)) y with h | ⟨j, h, hj⟩
      · rw [h, ho]; exact Nat.le_refl _
      · rw [h]; show k ≤ j; omega
    · by_cases hocc : y ∈ rdOf x ∨ y ∈ wrOf x
      · exact hocc
      · exfalso
        have hys : y ∈ seen := by rcases hy with h | h; exact h; exact absurd (Or.inr h) hocc
        obtain ⟨i, hi, hik⟩ := hs y hys hby
        have ho : lastOG base f k (rdOf x ++ wrOf x) y = some i := by unfold lastOG; rw [if_neg (by simpa [hby] using hocc)]; exact hi
        rw [hla' y] at hk
        rcases lastO_le base t (k + 1) (lastOG base f k (rdOf x ++ wrOf x)) y with h | ⟨j, h, hj⟩
        · rw [h, ho] at hk; simp at hk; omega
        · rw [h] at hk; simp at hk; omega
    · have := fit_from base la t (k + 1) (lastOG base f k (rdOf x ++ wrOf x)) (seen ++ wrOf x) hla' (fun y hy hby => ?_) (fun y i hi => ?_) hv
      · have e : (fun y => y ∈ seen ++ wrOf x) = (fun y => y ∈ seen ∨ y ∈ wrOf x) := by funext y; exact propext List.mem_append
        rw [e] at this
        exact this
      · unfold lastOG
        split
        · exact ⟨k, rfl, by omega⟩
        · rename_i hn
          rcases List.mem_append.1 hy with h | h
          · obtain ⟨i, h1, h2⟩ := hs y h hby; exact ⟨i, h1, by omega⟩
          · exact absurd (by simp [hby, h]) hn
      · unfold lastOG at hi
        split at hi
        · injection hi with hi; omega
        · have := hf y i hi; omega
theorem fit_of_valid {l : List In} {base : Int} (h : validP l base = true) : Fit (laOf l base) base 0 (segOf l) (fun _ => False) := by
  unfold validP at h
  simp only [Bool.and_eq_true] at h
  have := fit_from base (laOf l base) l 0 (fun _ => none) [] (fun _ => rfl) (fun y hy => by cases hy) (fun y i hi => by cases hi) h.2
  simpa using this
/-- the temporaries of a segment -/
def tsOf (l : List In) (base : Int) : List Tm := numFrom (laOf l base) base 0 (segOf l) []
/-- a register's new name -/
def nm (ts : List Tm) (y : Int) : Int := (num? ts y).getD y
def renT (ts : List Tm) (x : In) : In := { x with r := nm ts x.r, a := nm ts x.a }
theorem numStep_ext (la : Int → Nat) (base : Int) (k : Nat) (wr : List Int) : ∀ (l : List Int) (ts : List Tm), ∃ ex, l.foldl (numStep la base k wr) ts = ts ++ ex ∧ ∀ t ∈ ex, t.f = k ∧ t.x ∈ l ∧ base < t.x ∧ has ts t.x = false
  | [], ts => ⟨[], by simp, by simp⟩
  | x :: l, ts => by
    rw [List.foldl_cons]
    unfold numStep
    split
    · obtain ⟨ex, h1, h2⟩ := numStep_ext la base k wr l ts
      unfold numStep at h1
      exact ⟨ex, h1, fun t ht => ⟨(h2 t ht).1, List.mem_cons_of_mem _ (h2 t ht).2.1, (h2 t ht).2.2⟩⟩
    · rename_i hn
      obtain ⟨ex, h1, h2⟩ := numStep_ext la base k wr l (ts ++ [⟨x, least base ((ts.filter (Tm.used · k wr)).map Tm.n), k, la x⟩])
      unfold numStep at h1
      refine ⟨⟨x, least base ((ts.filter (Tm.used · k wr)).map Tm.n), k, la x⟩ :: ex, by rw [h1]; simp, fun t ht => ?_⟩
      simp only [Bool.or_eq_true, decide_eq_true_eq, not_or, Bool.not_eq_true] at hn
      rcases List.mem_cons.1 ht with rfl | ht
      · exact ⟨rfl, List.mem_cons_self, by show base < x; omega, hn.2⟩
      · have h3 := h2 t ht
        have h4 := h3.2.2.2
        rw [has_snoc, Bool.or_eq_false_iff] at h4
        exact ⟨h3.1, List.mem_cons_of_mem _ h3.2.1, h3.2.2.1, h4.1⟩
theorem numFrom_ext (la : Int → Nat) (base : Int) : ∀ (l : Seg) (k : Nat) (ts : List Tm), ∃ ex, numFrom la base k l ts = ts ++ ex ∧ ∀ t ∈ ex, k ≤ t.f ∧ base < t.x ∧ has ts t.x = false
  | [], _, ts => ⟨[], by simp [numFrom], by simp⟩
  | (rd, wr) :: l, k, ts => by
    obtain ⟨e1, h1, h2⟩ := numStep_ext la base k wr wr ts
    obtain ⟨e2, h3, h4⟩ := numFrom_ext la base l (k + 1) (wr.foldl (numStep la base k wr) ts)
    refine ⟨e1 ++ e2, by unfold numFrom; rw [h3, h1]; simp, fun t ht => ?_⟩
    rcases List.mem_append.1 ht with ht | ht
    · have := h2 t ht; exact ⟨by omega, this.2.2⟩
    · have := h4 t ht
      refine ⟨by omega, this.2.1, ?_⟩
      have h5 := this.2.2
      rw [h1] at h5
      unfold has at h5 ⊢
      rw [List.any_append, Bool.or_eq_false_iff] at h5
      exact h5.1
theorem num_app {ts ex : List Tm} {y : Int} (h : has ts y = true) : num? (ts ++ ex) y = num? ts y := by
  unfold num?
  rw [List.find?_append]
  obtain ⟨t, ht, hx⟩ := num_some h
  cases e : ts.find? (fun u => u.x == y) with
  | some u => rfl
  | none => have := List.find?_eq_none.1 e t ht; simp [hx] at this
theorem num_low {base : Int} {ts : List Tm} (h : ∀ t ∈ ts, base < t.x) {y : Int} (hy : y ≤ base) : num? ts y = none := by
  refine num_none ?_
  unfold has
  rw [List.any_eq_false]
  intro t ht
  have := h t ht
  simp; omega
end Go.Proofs.Yteffpeokialeiaa
