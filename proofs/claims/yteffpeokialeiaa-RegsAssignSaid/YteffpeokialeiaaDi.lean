/-
  Plain law of RegsLeast.
-/
import Derived.Test.YteffpeokialeiaaDa
import Derived.Test.YteffpeokialeiaaDh
import Derived.Test.YteffpeokialeiaaDd
namespace Go.Proofs.Yteffpeokialeiaa
open Go.RowKit

theorem split_mem {at_ : Int} : ∀ (l : List In) (k : Nat) (B A : List Int) (y : Int),
    (y ∈ (splitU at_ l k B A).1 ↔ y ∈ B ∨ ∃ j x, l[j]? = some x ∧ ((k + j : Nat) : Int) ≤ at_ ∧ y ∈ occ x) ∧ (y ∈ (splitU at_ l k B A).2 ↔ y ∈ A ∨ ∃ j x, l[j]? = some x ∧ at_ < ((k + j : Nat) : Int) ∧ y ∈ occ x)
  | [], _, _, _, _ => by simp [splitU]
  | z :: t, k, B, A, y => by
    have up : ∀ (p : Int → Prop), (∃ j x, (z :: t)[j]? = some x ∧ p ((k + j : Nat) : Int) ∧ y ∈ occ x) ↔ (p (k : Int) ∧ y ∈ occ z) ∨ ∃ j x, t[j]? = some x ∧ p ((k + 1 + j : Nat) : Int) ∧ y ∈ occ x := fun p => by
      constructor
      · rintro ⟨j, x, hx, hp, hy⟩
        cases j with
        | zero => injection hx with hx; subst hx; exact .inl ⟨hp, hy⟩
        | succ j => exact .inr ⟨j, x, hx, by rw [show k + 1 + j = k + (j + 1) by omega]; exact hp, hy⟩
      · rintro (⟨hp, hy⟩ | ⟨j, x, hx, hp, hy⟩)
        · exact ⟨0, z, rfl, hp, hy⟩
        · exact ⟨j + 1, x, hx, by rw [show k + (j + 1) = k + 1 + j by omega]; exact hp, hy⟩
    rw [up (· ≤ at_), up (at_ < ·)]
    unfold splitU
    split
    · rename_i h
      have hn : ¬ at_ < (k : Int) := by omega
      obtain ⟨h1, h2⟩ := split_mem (at_ := at_) t (k + 1) (B ++ occ z) A y
      rw [h1, h2, List.mem_append]
      constructor
      · simp [h, or_assoc]
      · simp [hn]
    · rename_i h
      have hn : at_ < (k : Int) := by omega
      obtain ⟨h1, h2⟩ := split_mem (at_ := at_) t (k + 1) B (A ++ occ z) y
      rw [h1, h2, List.mem_append]
      constructor
      · simp [h]
      · simp [hn, or_assoc]
theorem mine_fold {base : Int} {AA : List Int} : ∀ (B M : List Int), M.Nodup → (B.foldl (mineStep base AA) M).Nodup ∧ ∀ y, y ∈ B.foldl (mineStep base AA) M ↔ y ∈ M ∨ (y ∈ B ∧ base < y ∧ y ∈ AA)
  | [], M, h => ⟨h, by simp⟩
  | z :: B, M, h => by
    rw [List.foldl_cons]
    unfold mineStep
    split
    · rename_i hc
      simp only [Bool.and_eq_true, decide_eq_true_eq, List.contains_iff_mem, Bool.not_eq_true'] at hc
      have hz : z ∉ M := by simpa using hc.2.2
      obtain ⟨h1, h2⟩ := mine_fold (base := base) (AA := AA) B (M ++ [z]) (List.nodup_append.2 ⟨h, by simp, fun a ha b hb e => hz (by rw [List.mem_singleton.1 hb] at e; exact e ▸ ha)⟩)
      refine ⟨h1, fun y => ?_⟩
      have := h2 y
      unfold mineStep at this
      rw [this, List.mem_append, List.mem_singleton, List.mem_cons]
      constructor
      · rintro ((h | rfl) | h)
        · exact .inl h
        · exact .inr ⟨.inl rfl, hc.1, hc.2.1⟩
        · exact .inr ⟨.inr h.1, h.2⟩
      · rintro (h | ⟨rfl | h, h3⟩)
        · exact .inl (.inl h)
        · exact .inl (.inr rfl)
        · exact .inr ⟨h, h3⟩
    · rename_i hc
      obtain ⟨h1, h2⟩ := mine_fold (base := base) (AA := AA) B M h
      refine ⟨h1, fun y => ?_⟩
      have := h2 y
      unfold mineStep at this
      rw [this, List.mem_cons]
      constructor
      · rintro (h | h)
        · exact .inl h
        · exact .inr ⟨.inr h.1, h.2⟩
      · rintro (h | ⟨rfl | h, h3, h4⟩)
        · exact .inl h
        · left
          have : M.contains y = true := by
            apply Classical.byContradiction
            intro hm
            exact hc (by simp [h3, h4]; simpa using hm)
          simpa using this
        · exact .inr ⟨h, h3, h4⟩
/-- a temporary is written where it begins -/
theorem from_at {la : Int → Nat} {base : Int} : ∀ (l : Seg) (k : Nat) (ts : List Tm), ∀ t ∈ numFrom la base k l ts, t ∈ ts ∨ ∃ j p, l[j]? = some p ∧ t.f = k + j ∧ t.x ∈ p.2
  | [], _, _, t, ht => .inl ht
  | (rd, wr) :: l, k, ts, t, ht => by
    rcases from_at l (k + 1) _ t ht with h | ⟨j, p, h1, h2, h3⟩
    · obtain ⟨ex, he, hx⟩ := numStep_ext la base k wr wr ts
      rw [he] at h
      rcases List.mem_append.1 h with h | h
      · exact .inl h
      · exact .inr ⟨0, _, rfl, (hx t h).1, (hx t h).2.1⟩
    · exact .inr ⟨j + 1, p, h1, by omega, h3⟩
/-- what is written has a temporary that begins there or before -/
theorem from_has {la : Int → Nat} {base : Int} : ∀ (l : Seg) (k : Nat) (ts : List Tm) (j : Nat) (p : List Int × List Int) (y : Int), (∀ t ∈ ts, t.f ≤ k) → l[j]? = some p → y ∈ p.2 → base < y → ∃ t ∈ numFrom la base k l ts, t.x = y ∧ t.f ≤ k + j
  | [], _, _, _, _, _, _, h, _, _ => by simp at h
  | (rd, wr) :: l, k, ts, j, p, y, hf, hp, hy, hb => by
    obtain ⟨ex, he, hx⟩ := numStep_ext la base k wr wr ts
    have hf2 : ∀ t ∈ wr.foldl (numStep la base k wr) ts, t.f ≤ k := fun t ht => by
      rw [he] at ht
      rcases List.mem_append.1 ht with h | h
      · exact hf t h
      · have := (hx t h).1; omega
    cases j with
    | zero =>
      injection hp with hp; subst hp
      obtain ⟨t, ht, e⟩ := num_some ((has_numFold (la := la) (k := k) (wr := wr) wr ts y hb).2 (.inr hy))
      obtain ⟨e2, h2, _⟩ := numFrom_ext la base l (k + 1) (wr.foldl (numStep la base k wr) ts)
      exact ⟨t, by show t ∈ numFrom la base (k + 1) l _; rw [h2]; exact List.mem_append_left _ ht, e, hf2 t ht⟩
    | succ j =>
      obtain ⟨t, ht, e, h3⟩ := from_has l (k + 1) _ j p y (fun t ht => by have := hf2 t ht; omega) hp hy hb
      exact ⟨t, ht, e, by omega⟩
theorem used_count {l : List In} {base : Int} (h : validP l base = true) {k : Nat} {x : In} (hx : l[k]? = some x) : usedP l base k = (((tsOf l base).filter (Tm.used · k (wrOf x))).length : Int) := by
  have hok := (ok_all (segOf l) 0 [] (st0 base) (fun _ => False) (fun y _ => by simp [has]) (fun t ht => by cases ht) (fit_of_valid h) (ok_start _ _)).1
  have hsg : ∀ (j : Nat) (z : In), l[j]? = some z → (segOf l)[j]? = some (rdOf z, wrOf z) := fun j z hz => by unfold segOf; rw [List.getElem?_map, hz]; rfl
  unfold usedP
  rw [hx]
  show ((mineOf base ((splitU k l 0 [] []).2 ++ wrOf x) (splitU k l 0 [] []).1).length : Int) = _
  obtain ⟨m1, m2⟩ := mine_fold (base := base) (AA := (splitU k l 0 [] []).2 ++ wrOf x) (splitU k l 0 [] []).1 [] List.nodup_nil
  have n2 : (((tsOf l base).filter (Tm.used · k (wrOf x))).map Tm.x).Nodup := List.pairwise_map.2 (List.Pairwise.filter _ hok.keys)
  have mem : ∀ y, y ∈ mineOf base ((splitU k l 0 [] []).2 ++ wrOf x) (splitU k l 0 [] []).1 ↔ y ∈ ((tsOf l base).filter (Tm.used · k (wrOf x))).map Tm.x := fun y => by
    have hB := (split_mem (at_ := k) l 0 [] [] y).1
    have hA := (split_mem (at_ := k) l 0 [] [] y).2
    have e := m2 y
    unfold mineOf
    rw [e, List.mem_append, hB, hA]
    simp only [List.not_mem_nil, false_or, List.mem_map, List.mem_filter]
    unfold Tm.used
    simp only [Bool.and_eq_true, Bool.or_eq_true, decide_eq_true_eq, List.contains_iff_mem]
    constructor
    · rintro ⟨⟨j, z, hz, hj, hy⟩, hb, hafter⟩
      have hw : ∃ i u, i ≤ j ∧ l[i]? = some u ∧ y ∈ wrOf u := by
        rcases List.mem_append.1 hy with hy | hy
        · obtain ⟨i, hi, q, hq, hw⟩ := (vl_seen l [] j z y (vl_of h) hz hy hb).resolve_left (by simp)
          exact ⟨i, q, by omega, hq, hw⟩
        · exact ⟨j, z, Nat.le_refl _, hz, hy⟩
      obtain ⟨i, u, hi, hu, hw⟩ := hw
      obtain ⟨t, ht, rfl, hf⟩ := from_has (la := laOf l base) (base := base) (segOf l) 0 [] i _ y (fun t ht => by cases ht) (hsg i u hu) hw hb
      refine ⟨t, ⟨ht, by omega, ?_⟩, rfl⟩
      rcases hafter with ⟨j2, z2, hz2, hj2, hy2⟩ | hw2
      · left
        rw [hok.last t ht]
        obtain ⟨i2, h2, h3⟩ := last_ge base l 0 (fun _ => none) t.x j2 z2 hz2 hb (List.mem_append.1 hy2)
        unfold laOf lastO
        rw [h2]; show k < i2; omega
      · exact .inr hw2
    · rintro ⟨t, ⟨ht, hf, hl⟩, rfl⟩
      have hb := hok.above t ht
      obtain ⟨j, p, hp, hj, hy⟩ := (from_at (segOf l) 0 [] t ht).resolve_left (by simp)
      unfold segOf at hp
      rw [List.getElem?_map] at hp
      obtain ⟨z, hz, rfl⟩ := Option.map_eq_some_iff.1 hp
      refine ⟨⟨j, z, hz, by omega, List.mem_append_right _ hy⟩, hb, ?_⟩
      rcases hl with hl | hl
      · left
        rw [hok.last t ht] at hl
        unfold laOf lastO at hl
        rcases last_occ base l 0 (fun _ => none) t.x with h1 | ⟨j2, z2, h1, hz2, hy2⟩
        · rw [h1] at hl; simp at hl
        · rw [h1] at hl
          have hl2 : k < 0 + j2 := hl
          exact ⟨j2, z2, hz2, by omega, List.mem_append.2 hy2⟩
      · exact .inr hl
  have l1 := nodup_le m1 (fun y hy => (mem y).1 hy)
  have l2 := nodup_le n2 (fun y hy => (mem y).2 hy)
  rw [List.length_map] at l1 l2
  unfold mineOf
  unfold mineOf at l2
  omega
def gF (F : List Tm) : Seg → Nat → Int → Int
  | [], _, m => m
  | (_, wr) :: l, k, m => gF F l (k + 1) (max m ((F.filter (Tm.used · k wr)).length : Int))
theorem most_gF {la : Int → Nat} {base : Int} {F : List Tm} : ∀ (l : Seg) (k : Nat) (ts : List Tm) (m : Int), F = numFrom la base k l ts → mostFrom la base k l ts m = gF F l k m
  | [], _, _, _, _ => rfl
  | (rd, wr) :: l, k, ts, m, hF => by
    obtain ⟨ex, he, hx⟩ := numFrom_ext la base l (k + 1) (wr.foldl (numStep la base k wr) ts)
    have hF1 : F = wr.foldl (numStep la base k wr) ts ++ ex := hF.trans he
    have e : F.filter (Tm.used · k wr) = (wr.foldl (numStep la base k wr) ts).filter (Tm.used · k wr) := by
      rw [hF1, List.filter_append]
      have : ex.filter (Tm.used · k wr) = [] := List.filter_eq_nil_iff.2 (fun t ht => by
        have := (hx t ht).1
        unfold Tm.used
        rw [show decide (t.f ≤ k) = false by simp; omega]; simp)
      rw [this, List.append_nil]
    show mostFrom la base (k + 1) l _ _ = gF F l (k + 1) _
    rw [e]
    exact most_gF l (k + 1) _ _ hF
/-- the greatest number in use, of the first instructions -/
def gP (l : List In) (base : Int) : Nat → Int
  | 0 => 0
  | k + 1 => max (gP l base k) (usedP l base k)
theorem gF_gP {l : List In} {base : Int} (h : validP l base = true) : ∀ (d k : Nat), k + d = l.length → gF (tsOf l base) (segOf (l.drop k)) k (gP l base k) = gP l base l.length
  | 0, k, e => by
    rw [List.drop_of_length_le (by omega)]
    have : k = l.length := by omega
    rw [this]; rfl
  | d + 1, k, e => by
    have hx : l[k]? = some (l[k]'(by omega)) := List.getElem?_eq_getElem _
    rw [List.drop_eq_getElem_cons (by omega)]
    show gF (tsOf l base) (segOf (l.drop (k + 1))) (k + 1) (max (gP l base k) _) = _
    rw [← used_count h hx]
    exact gF_gP h d (k + 1) (by omega)
theorem great_need {l : List In} {base : Int} (h : validP l base = true) : gP l base l.length = needP l base := by
  have e1 : needP l base = mostFrom (laOf l base) base 0 (segOf l) [] 0 := by unfold needP; rw [if_pos h, most_eq h]
  rw [e1, most_gF (F := tsOf l base) (segOf l) 0 [] 0 rfl]
  exact (gF_gP h l.length 0 (by omega)).symm
theorem great_le {l : List In} {base : Int} (h : validP l base = true) (h60 : l.length ≤ 60) : ∀ k, k ≤ l.length → 0 ≤ gP l base k ∧ gP l base k ≤ 120
  | 0, _ => by constructor <;> show (_ : Int) ≤ _ <;> simp [gP]
  | k + 1, hk => by
    have hx : l[k]? = some (l[k]'(by omega)) := List.getElem?_eq_getElem _
    obtain ⟨h1, h2⟩ := great_le h h60 k (by omega)
    have h3 := used_count h hx
    have h4 := List.length_filter_le (Tm.used · k (wrOf (l[k]'(by omega)))) (tsOf l base)
    obtain ⟨_, h5⟩ := small_from (la := laOf l base) (base := base) (segOf l) 0 [] (fun p hp => by
      obtain ⟨x, _, rfl⟩ := List.mem_map.1 hp
      exact wr_len2 x) (fun t ht => by cases ht)
    have h6 : (segOf l).length = l.length := List.length_map _
    have h7 : (tsOf l base).length ≤ 0 + 2 * (segOf l).length := h5
    show 0 ≤ max (gP l base k) (usedP l base k) ∧ max (gP l base k) (usedP l base k) ≤ 120
    omega
/-! the names that are given -/
theorem wr_ra {x : In} (h : fo x = true) : ∀ y ∈ wrOf x, y = x.r ∨ y = x.a := by
  have e : ({ x with r := x.r, a := x.a } : In) = x := rfl
  rcases kinds h with h | h | h | h | h | h | h | h | h | ⟨h, _⟩
  all_goals
    obtain ⟨_, _, hw⟩ := h.ren x.r x.a h.r h.a
    rw [e] at hw
    rw [hw]
    intro y hy
  all_goals try (cases hy; done)
  all_goals try split at hy
  all_goals
    simp only [List.mem_cons, List.not_mem_nil, or_false] at hy
    first | exact .inl hy | exact .inr hy | exact hy
def Down (base : Int) (ts : List Tm) : Prop := ∀ t ∈ ts, ∀ y, base < y → y < t.n → ∃ u ∈ ts, u.n = y
theorem Down.fold {la : Int → Nat} {base : Int} {k : Nat} {wr : List Int} : ∀ (l : List Int) {ts : List Tm}, Down base ts → Down base (l.foldl (numStep la base k wr) ts)
  | [], _, h => h
  | x :: l, ts, h => by
    refine Down.fold l ?_
    unfold numStep
    split
    · exact h
    · intro t ht y h1 h2
      rcases List.mem_append.1 ht with ht | ht
      · obtain ⟨u, hu, e⟩ := h t ht y h1 h2
        exact ⟨u, List.mem_append_left _ hu, e⟩
      · rw [List.mem_singleton.1 ht] at h2
        obtain ⟨u, hu, e⟩ := List.mem_map.1 (least_all h1 h2)
        exact ⟨u, List.mem_append_left _ (List.mem_filter.1 hu).1, e⟩
theorem Down.all {la : Int → Nat} {base : Int} : ∀ (l : Seg) (k : Nat) {ts : List Tm}, Down base ts → Down base (numFrom la base k l ts)
  | [], _, _, h => h
  | (_, wr) :: l, k, _, h => Down.all l (k + 1) (h.fold wr)
theorem used_nodup {la : Int → Nat} {base : Int} : ∀ (l : Seg) (k : Nat) (ts : List Tm) (s : St) (seen : Int → Prop),
    (∀ x, base < x → (has ts x = true ↔ seen x)) → (∀ t ∈ ts, t.f < k) → Fit la base k l seen → Ok la base ts (fun t => decide (k ≤ t.l)) s →
    ∀ (j : Nat) (p : List Int × List Int), l[j]? = some p → (((numFrom la base k l ts).filter (Tm.used · (k + j) p.2)).map Tm.n).Nodup
  | [], _, _, _, _, _, _, _, _, _, _, hp => by simp at hp
  | (rd, wr) :: l, k, ts, s, seen, hs, hf, hfit, h, j, p, hp => by
    obtain ⟨h1, h2, h3, ⟨s', h4⟩, _⟩ := ok_step hs hf hfit h
    cases j with
    | zero =>
      injection hp with hp; subst hp
      obtain ⟨ex, he, hx⟩ := numFrom_ext la base l (k + 1) (wr.foldl (numStep la base k wr) ts)
      have hnil : ex.filter (Tm.used · k wr) = [] := List.filter_eq_nil_iff.2 (fun t ht => by
        have := (hx t ht).1
        unfold Tm.used
        rw [show decide (t.f ≤ k) = false by simp; omega]; simp)
      show (((numFrom la base (k + 1) l _).filter (Tm.used · k wr)).map Tm.n).Nodup
      rw [he, List.filter_append, hnil, List.append_nil]
      exact (List.nodup_append.1 h4.nodup).2.1
    | succ j =>
      have ih := used_nodup l (k + 1) _ _ (fun x => seen x ∨ x ∈ wr) (fun x hb => by rw [has_numFold wr ts x hb, hs x hb]) (fun t ht => by have := h2 t ht; omega) hfit.2.2.2.2.2 h1 j p hp
      rw [show k + (j + 1) = k + 1 + j by omega]
      exact ih
/-- an instruction at which the most are in use -/
theorem great_at (l : List In) (base : Int) : ∀ k : Nat, k ≤ l.length → gP l base k = 0 ∨ ∃ i, i < k ∧ gP l base k = usedP l base i
  | 0, _ => .inl rfl
  | k + 1, hk => by
    have hm : gP l base (k + 1) = max (gP l base k) (usedP l base k) := rfl
    rcases great_at l base k (by omega) with h | ⟨i, hi, h⟩
    · by_cases e : gP l base k ≤ usedP l base k
      · exact .inr ⟨k, by omega, by omega⟩
      · exact .inl (by omega)
    · by_cases e : gP l base k ≤ usedP l base k
      · exact .inr ⟨k, by omega, by omega⟩
      · exact .inr ⟨i, by omega, by omega⟩
/-- some name is the greatest -/
theorem great_name {l : List In} {base : Int} (h : validP l base = true) (hp : 0 < needP l base) : ∃ t ∈ tsOf l base, base + needP l base ≤ t.n := by
  rw [← great_need h] at hp ⊢
  rcases great_at l base l.length (Nat.le_refl _) with h0 | ⟨k, hk, h0⟩
  · omega
  have hx : l[k]? = some (l[k]'hk) := List.getElem?_eq_getElem _
  rw [h0] at hp ⊢
  rw [used_count h hx] at hp ⊢
  have hsg : (segOf l)[k]? = some (rdOf (l[k]'hk), wrOf (l[k]'hk)) := by unfold segOf; rw [List.getElem?_map, hx]; rfl
  have hnd := used_nodup (segOf l) 0 [] (st0 base) (fun _ => False) (fun y _ => by simp [has]) (fun t ht => by cases ht) (fit_of_valid h) (ok_start _ _) k _ hsg
  rw [Nat.zero_add] at hnd
  have hgt : ∀ t ∈ tsOf l base, base < t.n := numFrom_gt (segOf l) 0 [] (fun t ht => by cases ht)
  apply Classical.byContradiction
  intro hno
  obtain ⟨N, hN⟩ : ∃ N, N = (((tsOf l base).filter (Tm.used · k (wrOf (l[k]'hk)))).map Tm.n) := ⟨_, rfl⟩
  have hlen : N.length = ((tsOf l base).filter (Tm.used · k (wrOf (l[k]'hk)))).length := by rw [hN, List.length_map]
  rw [← hlen] at hno hp
  have hnd2 : N.Nodup := by rw [hN]; exact hnd
  have hle := nodup_le (m := upFrom (base + 1) (N.length - 1)) hnd2 (fun y hy => by
    rw [hN] at hy
    obtain ⟨t, ht, rfl⟩ := List.mem_map.1 hy
    have ht2 := (List.mem_filter.1 ht).1
    have h1 := hgt t ht2
    have h2 : ¬ base + (N.length : Int) ≤ t.n := fun hh => hno ⟨t, ht2, hh⟩
    rw [mem_upFrom]
    omega)
  rw [length_upFrom] at hle
  omega
def givenP (m : List In) : List Int := m.flatMap fun y => [y.r, y.a]
theorem mem_given {l : List In} {base : Int} (h : validP l base = true) (y : Int) : y ∈ givenP (assignP l base) ↔ ∃ x ∈ l, y = nm (tsOf l base) x.r ∨ y = nm (tsOf l base) x.a := by
  unfold givenP assignP
  rw [if_pos h, allocP_eq h]
  simp only [List.mem_flatMap, List.mem_map, List.mem_cons, List.not_mem_nil, or_false]
  constructor
  · rintro ⟨_, ⟨x, hx, rfl⟩, hy⟩
    exact ⟨x, hx, hy⟩
  · rintro ⟨x, hx, hy⟩
    exact ⟨_, ⟨x, hx, rfl⟩, hy⟩
theorem ts_keys {l : List In} {base : Int} (h : validP l base = true) : (tsOf l base).Pairwise (fun a b => a.x ≠ b.x) :=
  (ok_all (segOf l) 0 [] (st0 base) (fun _ => False) (fun y _ => by simp [has]) (fun t ht => by cases ht) (fit_of_valid h) (ok_start _ _)).1.keys
theorem nm_of {l : List In} {base : Int} (h : validP l base = true) {t : Tm} (ht : t ∈ tsOf l base) : nm (tsOf l base) t.x = t.n := by
  unfold nm
  rw [num_of_mem (ts_keys h) ht]; rfl
/-- what occurs above the base has a temporary -/
theorem occ_ts {l : List In} {base : Int} (h : validP l base = true) {x : In} (hx : x ∈ l) {y : Int} (hy : y ∈ rdOf x ∨ y ∈ wrOf x) (hb : base < y) : ∃ t ∈ tsOf l base, t.x = y := by
  obtain ⟨j, hj⟩ := List.getElem?_of_mem hx
  have hw : ∃ (i : Nat) (u : In), l[i]? = some u ∧ y ∈ wrOf u := by
    rcases hy with hy | hy
    · obtain ⟨i, hi, q, hq, hw⟩ := (vl_seen l [] j x y (vl_of h) hj hy hb).resolve_left (by simp)
      exact ⟨i, q, hq, hw⟩
    · exact ⟨j, x, hj, hy⟩
  obtain ⟨i, u, hu, hw⟩ := hw
  obtain ⟨t, ht, e, _⟩ := from_has (la := laOf l base) (base := base) (segOf l) 0 [] i (rdOf u, wrOf u) y (fun t ht => by cases ht) (by unfold segOf; rw [List.getElem?_map, hu]; rfl) hw hb
  exact ⟨t, ht, e⟩
theorem need_nn {l : List In} {base : Int} (h : validP l base = true) : 0 ≤ needP l base := by
  unfold needP
  rw [if_pos h, most_eq h]
  exact most_ge _ _ _ _ _ _
theorem given_le {l : List In} {base : Int} (h : validP l base = true) : ∀ y ∈ givenP (assignP l base), y ≤ base + needP l base := by
  obtain ⟨b0, _⟩ := valid_base h
  have hn := need_nn h
  have key : ∀ x ∈ l, ∀ z : Int, (z ≠ 0 → z ∈ rdOf x ∨ z ∈ wrOf x) → nm (tsOf l base) z ≤ base + needP l base := fun x hx z hz => by
    by_cases hb : base < z
    · obtain ⟨t, ht, rfl⟩ := occ_ts h hx (hz (by omega)) hb
      rw [nm_of h ht]
      have := (all_le (segOf l) 0 [] 0 t ht).resolve_left (by simp)
      unfold needP
      rw [if_pos h, most_eq h]
      exact this
    · rw [nm_low (by omega)]; omega
  intro y hy
  obtain ⟨x, hx, e⟩ := (mem_given h y).1 hy
  obtain ⟨k1, k2⟩ := kd_occ (valid_fo (vl_of h) x hx)
  rcases e with rfl | rfl
  · exact key x hx _ k1
  · exact key x hx _ k2
theorem given_has {l : List In} {base : Int} (h : validP l base = true) (j : Int) (h1 : 1 ≤ j) (h2 : j ≤ needP l base) : (givenP (assignP l base)).contains (base + j) = true := by
  have hn : ∃ t ∈ tsOf l base, t.n = base + j := by
    obtain ⟨t, ht, hle⟩ := great_name h (by omega)
    have hd : Down base (tsOf l base) := Down.all (segOf l) 0 (fun t ht => by cases ht)
    by_cases e : t.n = base + j
    · exact ⟨t, ht, e⟩
    · exact hd t ht (base + j) (by omega) (by omega)
  obtain ⟨t, ht, e⟩ := hn
  obtain ⟨i, p, hp, _, hx⟩ := (from_at (segOf l) 0 [] t ht).resolve_left (by simp)
  unfold segOf at hp
  rw [List.getElem?_map] at hp
  obtain ⟨x, hxl, rfl⟩ := Option.map_eq_some_iff.1 hp
  have hxm := List.mem_of_getElem? hxl
  have hm : base + j ∈ givenP (assignP l base) := (mem_given h _).2 ⟨x, hxm, by
    rw [← e, ← nm_of h ht]
    rcases wr_ra (valid_fo (vl_of h) x hxm) _ hx with e2 | e2
    · left; rw [e2]
    · right; rw [e2]⟩
  simpa using hm
theorem least_plain {l : List In} {base : Int} {n : Nat} (h : validP l base = true) (hn : l.length = n) (h60 : n ≤ 60) : gP l base n = needP l base ∧ (∀ j : Int, 1 ≤ j → j ≤ needP l base → (givenP (assignP l base)).contains (base + j) = true) ∧ (∀ y ∈ givenP (assignP l base), y ≤ base + needP l base) ∧ needP l base ≤ 120 ∧ 0 ≤ needP l base := by
  subst hn
  refine ⟨great_need h, given_has h, given_le h, ?_, need_nn h⟩
  rw [← great_need h]
  exact (great_le h h60 _ (Nat.le_refl _)).2
end Go.Proofs.Yteffpeokialeiaa
