/-
  Plain law: what regs.allocate returned is left as it is.
-/
import Derived.Test.YteffpeokialeiaaCg
import Derived.Test.YteffpeokialeiaaCf
namespace Go.Proofs.Yteffpeokialeiaa
open Go.RowKit

/-! numbers -/
theorem leastFrom_all (l : List Int) : ∀ (fuel : Nat) (n y : Int), n ≤ y → y < leastFrom l fuel n → y ∈ l
  | 0, n, y, h1, h2 => by unfold leastFrom at h2; omega
  | fuel + 1, n, y, h1, h2 => by
    unfold leastFrom at h2
    split at h2
    · rename_i hc
      by_cases e : y = n
      · subst e; simpa using hc
      · exact leastFrom_all l fuel (n + 1) y (by omega) h2
    · omega
theorem least_all {base : Int} {l : List Int} {y : Int} (h1 : base < y) (h2 : y < least base l) : y ∈ l := leastFrom_all l _ _ y (by omega) h2
theorem least_le (base : Int) (l : List Int) : least base l ≤ base + 1 + l.length := by
  have hge := least_gt base l
  have := length_of_all l (least base l - (base + 1)).toNat (base + 1) (fun y h1 h2 => least_all (base := base) (by omega) (by omega))
  omega

/-- two temporaries of a row with distinct numbers -/
theorem ok_inj {la : Int → Nat} {base : Int} {ts : List Tm} {p : Tm → Bool} {s : St} (h : Ok la base ts p s) {t u : Tm} (ht : t ∈ ts) (hu : u ∈ ts) (hp : p t = true) (hq : p u = true) (e : t.n = u.n) : t = u := by
  have h2 := (List.nodup_append.1 h.nodup).2.1
  have ht' := List.mem_filter.2 ⟨ht, hp⟩
  have hu' := List.mem_filter.2 ⟨hu, hq⟩
  have key : ∀ (l : List Tm), (l.map Tm.n).Nodup → t ∈ l → u ∈ l → t = u := by
    intro l
    induction l with
    | nil => intro _ h _; cases h
    | cons a l ih =>
      intro hn h1 h2
      rw [List.map_cons, List.nodup_cons] at hn
      rcases List.mem_cons.1 h1 with e1 | h3
      · rcases List.mem_cons.1 h2 with e2 | h4
        · rw [e1, e2]
        · exact absurd (List.mem_map.2 ⟨u, h4, by rw [← e1, e]⟩) hn.1
      · rcases List.mem_cons.1 h2 with e2 | h4
        · exact absurd (List.mem_map.2 ⟨t, h3, by rw [← e2, e]⟩) hn.1
        · exact ih hn.2 h3 h4
  exact key _ h2 ht' hu'

/-- what is told of each instruction: its reads have distinct names, and so have its writes -/
def InjL (base : Int) (f : Int → Int) (l : List Int) : Prop := ∀ y ∈ l, ∀ z ∈ l, base < y → base < z → f y = f z → y = z
def InjS (base : Int) (f : Int → Int) (l : Seg) : Prop := ∀ p ∈ l, InjL base f p.1 ∧ InjL base f p.2
theorem has_mem {ts : List Tm} {x : Int} (h : has ts x = true) : ∃ t ∈ ts, t.x = x := num_some h
theorem nm_mem {ts ex : List Tm} (h : ts.Pairwise (fun a b => a.x ≠ b.x)) {t : Tm} (ht : t ∈ ts) : nm (ts ++ ex) t.x = t.n := by
  unfold nm
  rw [num_app (List.any_eq_true.2 ⟨t, ht, by simp⟩), num_of_mem h ht]; rfl
theorem inj_all {la : Int → Nat} {base : Int} : ∀ (l : Seg) (k : Nat) (ts : List Tm) (s : St) (seen : Int → Prop),
    (∀ x, base < x → (has ts x = true ↔ seen x)) → (∀ t ∈ ts, t.f < k) → Fit la base k l seen → Ok la base ts (fun t => decide (k ≤ t.l)) s →
    InjS base (nm (numFrom la base k l ts)) l
  | [], _, _, _, _, _, _, _, _ => fun p hp => by cases hp
  | (rd, wr) :: l, k, ts, s, seen, hs, hf, hfit, h => by
    obtain ⟨h1, h2, h3, ⟨s', h4⟩, _⟩ := ok_step hs hf hfit h
    have ih := inj_all l (k + 1) _ _ (fun x => seen x ∨ x ∈ wr) (fun x hb => by rw [has_numFold wr ts x hb, hs x hb]) (fun t ht => by have := h2 t ht; omega) hfit.2.2.2.2.2 h1
    obtain ⟨ex, he, _⟩ := numFrom_ext la base l (k + 1) (wr.foldl (numStep la base k wr) ts)
    obtain ⟨e1, he1, _⟩ := numStep_ext la base k wr wr ts
    intro p hp
    rcases List.mem_cons.1 hp with rfl | hp
    · refine ⟨fun y hy z hz hby hbz e => ?_, fun y hy z hz hby hbz e => ?_⟩
      · obtain ⟨t, ht, rfl⟩ := has_mem ((hs y hby).2 (hfit.2.2.1 y hy hby))
        obtain ⟨u, hu, rfl⟩ := has_mem ((hs z hbz).2 (hfit.2.2.1 z hz hbz))
        have e2 : numFrom la base k ((rd, wr) :: l) ts = ts ++ (e1 ++ ex) := by
          show numFrom la base (k + 1) l _ = _
          rw [he, he1, List.append_assoc]
        rw [e2, nm_mem h.keys ht, nm_mem h.keys hu] at e
        have l1 := hfit.2.2.2.1 t.x hby (.inl hy)
        have l2 := hfit.2.2.2.1 u.x hbz (.inl hz)
        rw [ok_inj h ht hu (by rw [h.last t ht]; simpa using l1) (by rw [h.last u hu]; simpa using l2) e]
      · obtain ⟨t, ht, rfl⟩ := has_mem ((has_numFold (la := la) (k := k) (wr := wr) wr ts y hby).2 (.inr hy))
        obtain ⟨u, hu, rfl⟩ := has_mem ((has_numFold (la := la) (k := k) (wr := wr) wr ts z hbz).2 (.inr hz))
        have e2 : numFrom la base k ((rd, wr) :: l) ts = wr.foldl (numStep la base k wr) ts ++ ex := he
        rw [e2, nm_mem h4.keys ht, nm_mem h4.keys hu] at e
        have us : ∀ v ∈ wr.foldl (numStep la base k wr) ts, v.x ∈ wr → Tm.used v k wr = true := fun v hv hw => by
          unfold Tm.used
          rw [show decide (v.f ≤ k) = true by simpa using h2 v hv, show wr.contains v.x = true by simpa using hw]; simp
        rw [ok_inj h4 ht hu (us t ht hy) (us u hu hz) e]
    · exact ih p hp
theorem inj_seg {l : List In} {base : Int} (h : validP l base = true) : InjS base (nm (tsOf l base)) (segOf l) :=
  inj_all (segOf l) 0 [] (st0 base) (fun _ => False) (fun y _ => by simp [has]) (fun t ht => by cases ht) (fit_of_valid h) (ok_start _ _)

/-! names are within bounds -/
structure Bd (base M : Int) (ts : List Tm) : Prop where
  keys : ts.Pairwise (fun a b => a.x ≠ b.x)
  x : ∀ t ∈ ts, base < t.x ∧ t.x ≤ M
  n : ∀ t ∈ ts, t.n ≤ M
theorem keys_snoc {ts : List Tm} (h : ts.Pairwise (fun a b => a.x ≠ b.x)) {t : Tm} (hh : has ts t.x = false) : (ts ++ [t]).Pairwise (fun a b => a.x ≠ b.x) := by
  refine List.pairwise_append.2 ⟨h, List.pairwise_singleton _ _, fun a ha b hb => ?_⟩
  rw [List.mem_singleton.1 hb]
  intro e
  have : has ts t.x = true := List.any_eq_true.2 ⟨a, ha, by simpa using e⟩
  rw [hh] at this; cases this
theorem Bd.step {la : Int → Nat} {base M : Int} {k : Nat} {wr : List Int} {ts : List Tm} (h : Bd base M ts) {x : Int} (hx : x ≤ M) : Bd base M (numStep la base k wr ts x) := by
  unfold numStep
  split
  · exact h
  · rename_i hn
    simp only [Bool.or_eq_true, decide_eq_true_eq, not_or, Bool.not_eq_true] at hn
    have hk := keys_snoc h.keys (t := ⟨x, least base ((ts.filter (Tm.used · k wr)).map Tm.n), k, la x⟩) hn.2
    refine ⟨hk, fun t ht => ?_, fun t ht => ?_⟩
    · rcases List.mem_append.1 ht with ht | ht
      · exact h.x t ht
      · rw [List.mem_singleton.1 ht]; exact ⟨by show base < x; omega, hx⟩
    · rcases List.mem_append.1 ht with ht | ht
      · exact h.n t ht
      · rw [List.mem_singleton.1 ht]
        show least base _ ≤ M
        have h1 := least_le base ((ts.filter (Tm.used · k wr)).map Tm.n)
        rw [List.length_map] at h1
        have h2 := List.length_filter_le (Tm.used · k wr) ts
        have h3 : ((ts ++ [(⟨x, 0, k, la x⟩ : Tm)]).map Tm.x).Nodup := List.pairwise_map.2 (keys_snoc h.keys (t := ⟨x, 0, k, la x⟩) hn.2)
        have h4 := nodup_le h3 (m := upFrom (base + 1) (M - base).toNat) (fun y hy => by
          obtain ⟨u, hu, rfl⟩ := List.mem_map.1 hy
          rw [mem_upFrom]
          rcases List.mem_append.1 hu with hu | hu
          · have := h.x u hu; omega
          · rw [List.mem_singleton.1 hu]; show base + 1 ≤ x ∧ x < _; omega)
        rw [length_upFrom, List.length_map, List.length_append] at h4
        simp only [List.length_singleton] at h4
        omega
theorem Bd.fold {la : Int → Nat} {base M : Int} {k : Nat} {wr : List Int} : ∀ (l : List Int) {ts : List Tm}, Bd base M ts → (∀ x ∈ l, x ≤ M) → Bd base M (l.foldl (numStep la base k wr) ts)
  | [], _, h, _ => h
  | x :: l, _, h, hx => Bd.fold l (h.step (hx x List.mem_cons_self)) (fun y hy => hx y (List.mem_cons_of_mem _ hy))
theorem Bd.all {la : Int → Nat} {base M : Int} : ∀ (l : Seg) (k : Nat) {ts : List Tm}, Bd base M ts → (∀ p ∈ l, ∀ x ∈ p.2, x ≤ M) → Bd base M (numFrom la base k l ts)
  | [], _, _, h, _ => h
  | (_, wr) :: l, k, _, h, hx => Bd.all l (k + 1) (h.fold wr (hx _ List.mem_cons_self)) (fun p hp => hx p (List.mem_cons_of_mem _ hp))

/-! names are at most base and the greatest number in use -/
theorem new_le {la : Int → Nat} {base : Int} {k : Nat} {wr : List Int} : ∀ (l : List Int) (ts : List Tm), (∀ x ∈ l, x ∈ wr) → ∀ t ∈ l.foldl (numStep la base k wr) ts, t ∈ ts ∨ t.n ≤ base + (((l.foldl (numStep la base k wr) ts).filter (Tm.used · k wr)).length : Int)
  | [], _, _, t, ht => .inl ht
  | x :: l, ts, hw, t, ht => by
    rw [List.foldl_cons] at ht ⊢
    rcases new_le l (numStep la base k wr ts x) (fun y hy => hw y (List.mem_cons_of_mem _ hy)) t ht with h | h
    · obtain ⟨ex, he, _⟩ := numStep_ext la base k wr l (numStep la base k wr ts x)
      rw [he]
      unfold numStep at h ⊢
      split at h
      · exact .inl h
      · rename_i hn
        rcases List.mem_append.1 h with h | h
        · exact .inl h
        · right
          rw [if_neg hn]
          have e := List.mem_singleton.1 h
          have h1 := least_le base ((ts.filter (Tm.used · k wr)).map Tm.n)
          rw [List.length_map] at h1
          have hu : Tm.used t k wr = true := by
            rw [e]; unfold Tm.used
            simp [hw x List.mem_cons_self]
          rw [List.filter_append, List.filter_append, ← e, List.filter_cons_of_pos (p := fun x : Tm => x.used k wr) hu, List.length_append, List.length_append, List.length_cons]
          have : t.n = least base ((ts.filter (Tm.used · k wr)).map Tm.n) := by rw [e]
          rw [this]
          omega
    · exact .inr h
theorem most_ge (la : Int → Nat) (base : Int) : ∀ (l : Seg) (k : Nat) (ts : List Tm) (m : Int), m ≤ mostFrom la base k l ts m
  | [], _, _, _ => Int.le_refl _
  | (_, wr) :: l, k, ts, m => by
    have := most_ge la base l (k + 1) (wr.foldl (numStep la base k wr) ts) (max m (((wr.foldl (numStep la base k wr) ts).filter (Tm.used · k wr)).length : Int))
    show m ≤ mostFrom la base (k + 1) l _ _
    omega
theorem all_le {la : Int → Nat} {base : Int} : ∀ (l : Seg) (k : Nat) (ts : List Tm) (m : Int), ∀ t ∈ numFrom la base k l ts, t ∈ ts ∨ t.n ≤ base + mostFrom la base k l ts m
  | [], _, _, _, t, ht => .inl ht
  | (_, wr) :: l, k, ts, m, t, ht => by
    have hm := most_ge la base l (k + 1) (wr.foldl (numStep la base k wr) ts) (max m (((wr.foldl (numStep la base k wr) ts).filter (Tm.used · k wr)).length : Int))
    show t ∈ ts ∨ t.n ≤ base + mostFrom la base (k + 1) l _ _
    rcases all_le l (k + 1) (wr.foldl (numStep la base k wr) ts) (max m (((wr.foldl (numStep la base k wr) ts).filter (Tm.used · k wr)).length : Int)) t ht with h | h
    · rcases new_le wr ts (fun _ hx => hx) t h with h | h
      · exact .inl h
      · right; omega
    · exact .inr h

/-! the last occurrence -/
theorem last_occ (base : Int) : ∀ (t : List In) (k : Nat) (f : Int → Option Nat) (y : Int), lastOFrom base t k f y = f y ∨ ∃ j x, lastOFrom base t k f y = some (k + j) ∧ t[j]? = some x ∧ (y ∈ rdOf x ∨ y ∈ wrOf x)
  | [], _, _, _ => .inl rfl
  | x :: t, k, f, y => by
    show lastOFrom base t (k + 1) (lastOG base f k (rdOf x ++ wrOf x)) y = f y ∨ ∃ j z, lastOFrom base t (k + 1) (lastOG base f k (rdOf x ++ wrOf x)) y = some (k + j) ∧ _
    rcases last_occ base t (k + 1) (lastOG base f k (rdOf x ++ wrOf x)) y with h | ⟨j, z, h, hz, hy⟩
    · rw [h]
      unfold lastOG
      split
      · rename_i hc
        simp only [Bool.and_eq_true, decide_eq_true_eq, List.contains_iff_mem, List.mem_append] at hc
        exact .inr ⟨0, x, rfl, rfl, hc.2⟩
      · exact .inl rfl
    · exact .inr ⟨j + 1, z, by rw [h]; congr 1; omega, hz, hy⟩
theorem last_ge (base : Int) : ∀ (t : List In) (k : Nat) (f : Int → Option Nat) (y : Int) (j : Nat) (x : In), t[j]? = some x → base < y → (y ∈ rdOf x ∨ y ∈ wrOf x) → ∃ i, lastOFrom base t k f y = some i ∧ k + j ≤ i
  | [], _, _, _, _, _, h, _, _ => by simp at h
  | z :: t, k, f, y, 0, x, h, hb, hy => by
    injection h with h
    subst h
    show ∃ i, lastOFrom base t (k + 1) (lastOG base f k (rdOf z ++ wrOf z)) y = some i ∧ _
    rcases lastO_le base t (k + 1) (lastOG base f k (rdOf z ++ wrOf z)) y with h | ⟨i, h, hi⟩
    · rw [h]; unfold lastOG
      rw [if_pos (by simp [hb, hy])]
      exact ⟨k, rfl, by omega⟩
    · exact ⟨i, h, by omega⟩
  | z :: t, k, f, y, j + 1, x, h, hb, hy => by
    obtain ⟨i, h1, h2⟩ := last_ge base t (k + 1) (lastOG base f k (rdOf z ++ wrOf z)) y j x h hb hy
    exact ⟨i, h1, by omega⟩

/-! an instruction renamed -/
theorem kd_ren {base : Int} {f : Int → Int} {x : In} (hb : 0 ≤ base) (hlow : ∀ y, y ≤ base → f y = y) (hhigh : ∀ y, base < y → y ≤ 4096 → base < f y ∧ f y ≤ 4096) (h : fo x = true) (hp : (x.op = 19 ∨ x.op = 20) → x.ar ≤ base)
    (i1 : ∀ y ∈ rdOf x, ∀ z ∈ rdOf x, f y = f z → y = z) (i2 : ∀ y ∈ wrOf x, ∀ z ∈ wrOf x, f y = f z → y = z) :
    fo { x with r := f x.r, a := f x.a } = true ∧ rdOf { x with r := f x.r, a := f x.a } = (rdOf x).map f ∧ wrOf { x with r := f x.r, a := f x.a } = (wrOf x).map f := by
  have pr : ∀ r a : Int, (∀ y ∈ (if [r].contains a then [r] else [r, a]), ∀ z ∈ (if [r].contains a then [r] else [r, a]), f y = f z → y = z) →
      (if [f r].contains (f a) then [f r] else [f r, f a]) = (if [r].contains a then [r] else [r, a]).map f := fun r a hi => by
    by_cases e : a = r
    · simp [e]
    · have e2 : ¬ f a = f r := fun h => e (hi a (by rw [if_neg (by simpa using e)]; simp) r (by rw [if_neg (by simpa using e)]; simp) h)
      rw [if_neg (by simpa using e2), if_neg (by simpa using e)]; rfl
  have z0 : f 0 = 0 := hlow 0 hb
  have f1 : ∀ u, fits u rOk x.r → fits u rOk (f x.r) := fun u h1 => by
    cases u with
    | true =>
      unfold fits at h1 ⊢
      simp only at h1 ⊢
      unfold rOk at h1 ⊢
      simp only [Bool.and_eq_true, bne_iff_ne, ne_eq, decide_eq_true_eq] at h1 ⊢
      by_cases hr : x.r ≤ base
      · rw [hlow _ hr]; exact h1
      · have := hhigh x.r (by omega) h1.2.2
        omega
    | false => unfold fits at h1 ⊢; simp only at h1 ⊢; rw [h1, z0]
  have f2 : ∀ u, fits u aOk x.a → fits u aOk (f x.a) := fun u h1 => by
    cases u with
    | true =>
      unfold fits at h1 ⊢
      simp only at h1 ⊢
      unfold aOk at h1 ⊢
      simp only [Bool.and_eq_true, decide_eq_true_eq] at h1 ⊢
      by_cases hr : x.a ≤ base
      · rw [hlow _ hr]; exact h1
      · have := hhigh x.a (by omega) h1.2
        omega
    | false => unfold fits at h1 ⊢; simp only at h1 ⊢; rw [h1, z0]
  have e0 : ({ x with r := x.r, a := x.a } : In) = x := rfl
  rcases kinds h with h | h | h | h | h | h | h | h | h | ⟨h, hop, har⟩
  all_goals
    obtain ⟨hfo, hr, hw⟩ := h.ren (f x.r) (f x.a) (f1 _ h.r) (f2 _ h.a)
    obtain ⟨_, hr0, hw0⟩ := h.ren x.r x.a h.r h.a
    rw [e0] at hr0 hw0
    rw [hr0] at i1
    rw [hw0] at i2
    rw [hr, hw, hr0, hw0]
    refine ⟨hfo, ?_⟩
  all_goals refine ⟨?_, ?_⟩
  all_goals first | rfl | exact pr _ _ i1 | exact pr _ _ i2 | skip
  have har2 := hp hop
  rw [List.map_map]
  refine List.map_congr_left fun i hi => ?_
  have := List.mem_range.1 hi
  show (i : Int) + 1 = f ((i : Int) + 1)
  rw [hlow _ (by omega)]

/-! the simulation -/
structure Sim (la' : Int → Nat) (base : Int) (ts ts' : List Tm) : Prop where
  keys : ts.Pairwise (fun a b => a.x ≠ b.x)
  keys' : ts'.Pairwise (fun a b => a.x ≠ b.x)
  above : ∀ t ∈ ts, base < t.x
  id : ∀ t ∈ ts', t.n = t.x ∧ t.l = la' t.x
  has : ∀ y, has ts' y = true ↔ ∃ t ∈ ts, t.n = y
theorem sim_used {la' : Int → Nat} {base : Int} {F ts ts' ex : List Tm} {k : Nat} {wr : List Int} (h : Sim la' base ts ts') (hF : F = ts ++ ex) (hl : ∀ t ∈ F, t.l ≤ la' t.n) (hf' : ∀ t ∈ ts', t.f ≤ k) {t : Tm} (ht : t ∈ ts) (hu : t.used k wr = true) :
    ∃ t' ∈ ts', t'.n = t.n ∧ t'.used k (wr.map (nm F)) = true := by
  obtain ⟨t', ht', hx⟩ := num_some ((h.has t.n).2 ⟨t, ht, rfl⟩)
  obtain ⟨i1, i2⟩ := h.id t' ht'
  refine ⟨t', ht', by rw [i1, hx], ?_⟩
  unfold Tm.used at hu ⊢
  simp only [Bool.and_eq_true, Bool.or_eq_true, decide_eq_true_eq, List.contains_iff_mem] at hu ⊢
  refine ⟨hf' t' ht', ?_⟩
  rcases hu.2 with hk | hk
  · left
    have := hl t (by rw [hF]; exact List.mem_append_left _ ht)
    rw [i2, hx]; omega
  · right
    rw [hx]
    refine List.mem_map.2 ⟨t.x, hk, ?_⟩
    rw [hF]
    exact nm_mem h.keys ht
theorem sim_step {la la' : Int → Nat} {base : Int} {F ts ts' ex : List Tm} {k : Nat} {wr : List Int} {x : Int} (h : Sim la' base ts ts') (hx : x ∈ wr) (hF : F = numStep la base k wr ts x ++ ex) (hl : ∀ t ∈ F, t.l ≤ la' t.n) (ha : ∀ t ∈ F, base < t.x)
    (hf' : ∀ t ∈ ts', t.f ≤ k) :
    Sim la' base (numStep la base k wr ts x) (numStep la' base k (wr.map (nm F)) ts' (nm F x)) ∧ ∀ t ∈ numStep la' base k (wr.map (nm F)) ts' (nm F x), t.f ≤ k := by
  by_cases hb : x ≤ base
  · have e : nm F x = x := by unfold nm; rw [num_low ha hb]; rfl
    rw [e]
    unfold numStep
    rw [if_pos (by simp [hb]), if_pos (by simp [hb])]
    exact ⟨h, hf'⟩
  cases hh : Yteffpeokialeiaa.has ts x with
  | true =>
    have e1 : numStep la base k wr ts x = ts := by unfold numStep; rw [if_pos (by simp [hh])]
    rw [e1] at hF ⊢
    obtain ⟨t, ht, rfl⟩ := num_some hh
    have e : nm F t.x = t.n := by rw [hF]; exact nm_mem h.keys ht
    rw [e]
    unfold numStep
    rw [if_pos (by simp [(h.has t.n).2 ⟨t, ht, rfl⟩])]
    exact ⟨h, hf'⟩
  | false =>
    obtain ⟨n, hn⟩ : ∃ n, n = least base ((ts.filter (Tm.used · k wr)).map Tm.n) := ⟨_, rfl⟩
    have e1 : numStep la base k wr ts x = ts ++ [⟨x, n, k, la x⟩] := by unfold numStep; rw [if_neg (by simp [hh, hb]), hn]
    have hk := keys_snoc h.keys (t := ⟨x, n, k, la x⟩) hh
    rw [e1] at hF ⊢
    have e : nm F x = n := by rw [hF]; exact nm_mem (t := ⟨x, n, k, la x⟩) hk (by simp)
    rw [e]
    have hnb : base < n := by rw [hn]; exact least_gt _ _
    have hab : ∀ t ∈ ts ++ [(⟨x, n, k, la x⟩ : Tm)], base < t.x := fun t ht => ha t (by rw [hF]; exact List.mem_append_left _ ht)
    have hts : ∀ t ∈ ts, Tm.used t k wr = true → ∃ t' ∈ ts', t'.n = t.n ∧ t'.used k (wr.map (nm F)) = true := fun t ht hu => sim_used h (ex := [⟨x, n, k, la x⟩] ++ ex) (by rw [hF, List.append_assoc]) hl hf' ht hu
    cases hh' : Yteffpeokialeiaa.has ts' n with
    | true =>
      have e2 : numStep la' base k (wr.map (nm F)) ts' n = ts' := by unfold numStep; rw [if_pos (by simp [hh'])]
      rw [e2]
      refine ⟨⟨hk, h.keys', hab, h.id, fun y => ?_⟩, hf'⟩
      rw [h.has]
      constructor
      · rintro ⟨t, ht, e⟩; exact ⟨t, List.mem_append_left _ ht, e⟩
      · rintro ⟨t, ht, e⟩
        rcases List.mem_append.1 ht with ht | ht
        · exact ⟨t, ht, e⟩
        · rw [List.mem_singleton.1 ht] at e
          exact (h.has y).1 (by rw [← e]; exact hh')
    | false =>
      have e3 : least base ((ts'.filter (Tm.used · k (wr.map (nm F)))).map Tm.n) = n := by
        refine least_eq base _ n hnb (fun hm => ?_) (fun y h1 h2 => ?_)
        · obtain ⟨t', ht', _, e4⟩ := mem_map_n.1 hm
          have : Yteffpeokialeiaa.has ts' n = true := List.any_eq_true.2 ⟨t', ht', by rw [← (h.id t' ht').1, e4]; simp⟩
          rw [hh'] at this; cases this
        · rw [hn] at h2
          obtain ⟨t, ht, hu, e4⟩ := mem_map_n.1 (least_all h1 h2)
          obtain ⟨t', ht', e5, hu'⟩ := hts t ht hu
          exact mem_map_n.2 ⟨t', ht', hu', by rw [e5, e4]⟩
      have e2 : numStep la' base k (wr.map (nm F)) ts' n = ts' ++ [⟨n, n, k, la' n⟩] := by
        unfold numStep; rw [if_neg (by simp [hh']; omega), e3]
      rw [e2]
      refine ⟨⟨hk, keys_snoc h.keys' hh', hab, fun t ht => ?_, fun y => ?_⟩, fun t ht => ?_⟩
      · rcases List.mem_append.1 ht with ht | ht
        · exact h.id t ht
        · rw [List.mem_singleton.1 ht]; exact ⟨rfl, rfl⟩
      · rw [has_snoc, Bool.or_eq_true, h.has, beq_iff_eq]
        constructor
        · rintro (⟨t, ht, e⟩ | e)
          · exact ⟨t, List.mem_append_left _ ht, e⟩
          · exact ⟨_, List.mem_append_right _ List.mem_cons_self, e⟩
        · rintro ⟨t, ht, e⟩
          rcases List.mem_append.1 ht with ht | ht
          · exact .inl ⟨t, ht, e⟩
          · rw [List.mem_singleton.1 ht] at e; exact .inr e
      · rcases List.mem_append.1 ht with ht | ht
        · exact hf' t ht
        · rw [List.mem_singleton.1 ht]; exact Nat.le_refl _
theorem sim_fold {la la' : Int → Nat} {base : Int} {F : List Tm} {k : Nat} {wr : List Int} (hl : ∀ t ∈ F, t.l ≤ la' t.n) (ha : ∀ t ∈ F, base < t.x) : ∀ (l : List Int) (ts ts' ex : List Tm), Sim la' base ts ts' → (∀ x ∈ l, x ∈ wr) → F = l.foldl (numStep la base k wr) ts ++ ex → (∀ t ∈ ts', t.f ≤ k) →
    Sim la' base (l.foldl (numStep la base k wr) ts) ((l.map (nm F)).foldl (numStep la' base k (wr.map (nm F))) ts') ∧ ∀ t ∈ (l.map (nm F)).foldl (numStep la' base k (wr.map (nm F))) ts', t.f ≤ k
  | [], _, _, _, h, _, _, hf => ⟨h, hf⟩
  | x :: l, ts, ts', ex, h, hw, hF, hf => by
    rw [List.foldl_cons] at hF ⊢
    rw [List.map_cons, List.foldl_cons]
    obtain ⟨e1, he, _⟩ := numStep_ext la base k wr l (numStep la base k wr ts x)
    obtain ⟨h1, h2⟩ := sim_step h (hw x List.mem_cons_self) (ex := e1 ++ ex) (by rw [hF, he, List.append_assoc]) hl ha hf
    exact sim_fold hl ha l _ _ ex h1 (fun y hy => hw y (List.mem_cons_of_mem _ hy)) hF h2
theorem sim_most {la' : Int → Nat} {base : Int} {F ts ts' ex : List Tm} {k : Nat} {wr : List Int} {p : Tm → Bool} {la : Int → Nat} {s : St} (h : Sim la' base ts ts') (hF : F = ts ++ ex) (hl : ∀ t ∈ F, t.l ≤ la' t.n) (hf' : ∀ t ∈ ts', t.f ≤ k)
    (ho : Ok la base ts p s) (hp : ∀ t, p t = Tm.used t k wr) : (ts.filter (Tm.used · k wr)).length ≤ (ts'.filter (Tm.used · k (wr.map (nm F)))).length := by
  have hn := (List.nodup_append.1 ho.nodup).2.1
  rw [show (p : Tm → Bool) = fun t => Tm.used t k wr from funext hp] at hn
  have := nodup_le hn (m := (ts'.filter (Tm.used · k (wr.map (nm F)))).map Tm.n) (fun y hy => by
    obtain ⟨t, ht, hu, e⟩ := mem_map_n.1 hy
    obtain ⟨t', ht', e5, hu'⟩ := sim_used h hF hl hf' ht hu
    exact mem_map_n.2 ⟨t', ht', hu', by rw [e5, e]⟩)
  simpa using this
def mapS (f : Int → Int) (l : Seg) : Seg := l.map fun p => (p.1.map f, p.2.map f)
theorem sim_all {la la' : Int → Nat} {base : Int} {F : List Tm} (hl : ∀ t ∈ F, t.l ≤ la' t.n) (ha : ∀ t ∈ F, base < t.x) : ∀ (l : Seg) (k : Nat) (ts ts' : List Tm) (s : St) (seen : Int → Prop) (m m' : Int),
    (∀ x, base < x → (has ts x = true ↔ seen x)) → (∀ t ∈ ts, t.f < k) → Fit la base k l seen → Ok la base ts (fun t => decide (k ≤ t.l)) s →
    F = numFrom la base k l ts → Sim la' base ts ts' → (∀ t ∈ ts', t.f ≤ k) → m ≤ m' →
    Sim la' base F (numFrom la' base k (mapS (nm F) l) ts') ∧ mostFrom la base k l ts m ≤ mostFrom la' base k (mapS (nm F) l) ts' m'
  | [], _, ts, ts', _, _, _, _, _, _, _, _, hF, h, _, hm => by
    subst hF
    exact ⟨h, hm⟩
  | (rd, wr) :: l, k, ts, ts', s, seen, m, m', hs, hf, hfit, hok, hF, h, hf', hm => by
    obtain ⟨h1, h2, h3, ⟨s', h4⟩, _⟩ := ok_step hs hf hfit hok
    obtain ⟨ex, he, _⟩ := numFrom_ext la base l (k + 1) (wr.foldl (numStep la base k wr) ts)
    have hF1 : F = wr.foldl (numStep la base k wr) ts ++ ex := hF.trans he
    obtain ⟨g1, g2⟩ := sim_fold (wr := wr) hl ha wr ts ts' ex h (fun _ hx => hx) hF1 hf'
    have g3 := sim_most g1 hF1 hl g2 h4 (fun _ => rfl)
    exact sim_all hl ha l (k + 1) _ _ _ (fun x => seen x ∨ x ∈ wr) _ _ (fun x hb => by rw [has_numFold wr ts x hb, hs x hb]) (fun t ht => by have := h2 t ht; omega) hfit.2.2.2.2.2 h1 hF g1 (fun t ht => by have := g2 t ht; omega) (Int.max_le.2 ⟨Int.le_trans hm (Int.le_max_left _ _), Int.le_trans (Int.ofNat_le.2 g3) (Int.le_max_right _ _)⟩)
/-- no more are in use than there are names -/
theorem most_le {la : Int → Nat} {base N : Int} (hN : 0 ≤ N) : ∀ (l : Seg) (k : Nat) (ts : List Tm) (m : Int) (F : List Tm), F = numFrom la base k l ts → F.Pairwise (fun a b => a.x ≠ b.x) → (∀ t ∈ F, base < t.x ∧ t.x ≤ base + N) → m ≤ N → mostFrom la base k l ts m ≤ N
  | [], _, _, _, _, _, _, _, hm => hm
  | (_, wr) :: l, k, ts, m, F, hF, hk, hx, hm => by
    obtain ⟨ex, he, _⟩ := numFrom_ext la base l (k + 1) (wr.foldl (numStep la base k wr) ts)
    have hF1 : F = wr.foldl (numStep la base k wr) ts ++ ex := hF.trans he
    refine most_le hN l (k + 1) _ _ F hF hk hx ?_
    have h1 : (((wr.foldl (numStep la base k wr) ts).filter (Tm.used · k wr)).map Tm.x).Nodup := by
      refine List.pairwise_map.2 (List.Pairwise.filter _ ?_)
      rw [hF1] at hk
      exact (List.pairwise_append.1 hk).1
    have h2 := nodup_le h1 (m := upFrom (base + 1) N.toNat) (fun y hy => by
      obtain ⟨t, ht, rfl⟩ := List.mem_map.1 hy
      have := hx t (by rw [hF1]; exact List.mem_append_left _ (List.mem_filter.1 ht).1)
      rw [mem_upFrom]; omega)
    rw [length_upFrom, List.length_map] at h2
    omega
theorem vl_ren {base : Int} {f : Int → Int} (hlow : ∀ y, y ≤ base → f y = y) (ren : In → In) : ∀ (l : List In) (s : List Int), vl base l s = true → (∀ x ∈ l, fo (ren x) = true ∧ rdOf (ren x) = (rdOf x).map f ∧ wrOf (ren x) = (wrOf x).map f ∧ (ren x).op = x.op ∧ (ren x).ar = x.ar) →
    vl base (l.map ren) (s.map f) = true
  | [], _, _, _ => rfl
  | x :: l, s, h, hr => by
    unfold vl at h
    simp only [Bool.and_eq_true, Bool.not_eq_true'] at h
    obtain ⟨h1, h2, h3, h4, h5⟩ := hr x List.mem_cons_self
    rw [List.map_cons]
    unfold vl
    simp only [Bool.and_eq_true, Bool.not_eq_true']
    refine ⟨?_, ?_, ?_⟩
    · have h6 := h.1
      unfold badB at h6 ⊢
      rw [h1, h4, h5]
      simp only [Bool.or_eq_false_iff] at h6 ⊢
      exact ⟨rfl, h6.2⟩
    · have h6 := h.2.1
      unfold readB at h6 ⊢
      rw [h2]
      simp only [List.all_map]
      refine List.all_eq_true.2 (fun y hy => ?_)
      have h7 := List.all_eq_true.1 h6 y hy
      simp only [Function.comp, Bool.not_eq_true', Bool.and_eq_false_iff, decide_eq_false_iff_not, Bool.not_eq_false', List.contains_iff_mem] at h7 ⊢
      rcases h7 with h7 | h7
      · left; rw [hlow y (by omega)]; exact h7
      · right
        exact List.mem_map.2 ⟨y, h7, rfl⟩
    · rw [h3, ← List.map_append]
      exact vl_ren hlow ren l _ h.2.2 (fun y hy => hr y (List.mem_cons_of_mem _ hy))

theorem wr_le {x : In} (h : fo x = true) : ∀ y ∈ wrOf x, y ≤ 4096 := by
  have hr : rOk x.r = true → x.r ≤ 4096 := fun h => by unfold rOk at h; simp only [Bool.and_eq_true, decide_eq_true_eq] at h; exact h.2.2
  have ha : aOk x.a = true → x.a ≤ 4096 := fun h => by unfold aOk at h; simp only [Bool.and_eq_true, decide_eq_true_eq] at h; exact h.2
  have e : ({ x with r := x.r, a := x.a } : In) = x := rfl
  rcases kinds h with h | h | h | h | h | h | h | h | h | ⟨h, _⟩
  all_goals
    obtain ⟨_, _, hw⟩ := h.ren x.r x.a h.r h.a
    rw [e] at hw
    rw [hw]
    have h1 := h.r
    have h2 := h.a
    simp only [fits] at h1 h2
    intro y hy
  all_goals try (cases hy; done)
  all_goals try split at hy
  all_goals
    simp only [List.mem_cons, List.not_mem_nil, or_false] at hy
    first | (rw [hy]; exact hr h1) | (rw [hy]; exact ha h2) | (rcases hy with hy | hy <;> rw [hy] <;> first | exact hr h1 | exact ha h2)

/-! the law -/
theorem again_plain {l : List In} {base : Int} (h : validP l base = true) : validP (assignP l base) base = true ∧ assignP (assignP l base) base = assignP l base ∧ needP (assignP l base) base = needP l base := by
  obtain ⟨b0, b1⟩ := valid_base h
  have hv := vl_of h
  have hfo := valid_fo hv
  obtain ⟨F, hF⟩ : ∃ F, F = tsOf l base := ⟨_, rfl⟩
  have hlow : ∀ y, y ≤ base → nm F y = y := fun y hy => by rw [hF]; exact nm_low hy
  have hwr : ∀ x ∈ l, ∀ y ∈ wrOf x, y ≤ 4096 := fun x hx y hy => wr_le (hfo x hx) y hy
  have hbd : Bd base 4096 F := by
    rw [hF]
    refine Bd.all (segOf l) 0 ⟨List.Pairwise.nil, fun t ht => (by cases ht), fun t ht => (by cases ht)⟩ (fun p hp x hx => ?_)
    obtain ⟨z, hz, rfl⟩ := List.mem_map.1 hp
    exact hwr z hz x hx
  have hhigh : ∀ y, base < y → y ≤ 4096 → base < nm F y ∧ nm F y ≤ 4096 := fun y h1 h2 => by
    refine ⟨by rw [hF]; exact nm_high h1, ?_⟩
    unfold nm num?
    cases hf : F.find? (fun t => t.x == y) with
    | none => exact h2
    | some t => exact hbd.n t (List.mem_of_find?_eq_some hf)
  have hinj := inj_seg h
  rw [← hF] at hinj
  have full : ∀ L : List Int, InjL base (nm F) L → ∀ y ∈ L, ∀ z ∈ L, nm F y = nm F z → y = z := fun L hL y hy z hz e => by
    have nh : ∀ y, base < y → base < nm F y := fun y h1 => by rw [hF]; exact nm_high h1
    by_cases c1 : base < y
    · by_cases c2 : base < z
      · exact hL y hy z hz c1 c2 e
      · have := nh y c1; rw [hlow z (by omega)] at e; omega
    · by_cases c2 : base < z
      · have := nh z c2; rw [hlow y (by omega)] at e; omega
      · rw [hlow y (by omega), hlow z (by omega)] at e; exact e
  have hren : ∀ x ∈ l, fo (renT F x) = true ∧ rdOf (renT F x) = (rdOf x).map (nm F) ∧ wrOf (renT F x) = (wrOf x).map (nm F) ∧ (renT F x).op = x.op ∧ (renT F x).ar = x.ar := fun x hx => by
    have hi := hinj (rdOf x, wrOf x) (List.mem_map.2 ⟨x, hx, rfl⟩)
    obtain ⟨k1, k2, k3⟩ := kd_ren b0 hlow hhigh (hfo x hx) (valid_ar hv x hx) (full _ hi.1) (full _ hi.2)
    exact ⟨k1, k2, k3, rfl, rfl⟩
  have hm : assignP l base = l.map (renT F) := by unfold assignP; rw [if_pos h, allocP_eq h, hF]
  have hv2 : validP (assignP l base) base = true := by
    rw [hm]
    have := vl_ren hlow (renT F) l [] hv hren
    unfold validP
    rw [show vl base (l.map (renT F)) [] = true from this]
    simp [b0, b1]
  have hseg : segOf (assignP l base) = mapS (nm F) (segOf l) := by
    rw [hm]
    unfold segOf mapS
    rw [List.map_map, List.map_map]
    refine List.map_congr_left fun x hx => ?_
    show (rdOf (renT F x), wrOf (renT F x)) = _
    rw [(hren x hx).2.1, (hren x hx).2.2.1]; rfl
  have hok := ok_all (segOf l) 0 [] (st0 base) (fun _ => False) (fun y _ => by simp [has]) (fun t ht => by cases ht) (fit_of_valid h) (ok_start _ _)
  have hlast : ∀ t ∈ F, t.l = laOf l base t.x := by rw [hF]; exact hok.1.last
  have hn : ∀ t ∈ F, base < t.n := by rw [hF]; exact numFrom_gt (segOf l) 0 [] (fun t ht => by cases ht)
  have hl : ∀ t ∈ F, t.l ≤ laOf (assignP l base) base t.n := fun t ht => by
    rw [hlast t ht]
    unfold laOf lastO
    rcases last_occ base l 0 (fun _ => none) t.x with h1 | ⟨j, x, h1, hx, hy⟩
    · rw [h1]; exact Nat.zero_le _
    · rw [h1]
      have e : nm F t.x = t.n := by
        have := nm_mem (ex := []) hbd.keys ht
        rwa [List.append_nil] at this
      have hxl : x ∈ l := List.mem_of_getElem? hx
      obtain ⟨i, h2, h3⟩ := last_ge base (assignP l base) 0 (fun _ => none) t.n j (renT F x) (by rw [hm, List.getElem?_map, hx]; rfl) (hn t ht) (by
        rw [(hren x hxl).2.1, (hren x hxl).2.2.1]
        rcases hy with hy | hy
        · exact .inl (List.mem_map.2 ⟨_, hy, e⟩)
        · exact .inr (List.mem_map.2 ⟨_, hy, e⟩))
      rw [h2]; exact h3
  obtain ⟨s1, s2⟩ := sim_all (la := laOf l base) (la' := laOf (assignP l base) base) hl (fun t ht => (hbd.x t ht).1) (segOf l) 0 [] [] (st0 base) (fun _ => False) 0 0 (fun y _ => by simp [has]) (fun t ht => by cases ht) (fit_of_valid h) (ok_start _ _) hF
    ⟨List.Pairwise.nil, List.Pairwise.nil, fun t ht => (by cases ht), fun t ht => (by cases ht), fun y => by simp [has]⟩ (fun t ht => by cases ht) (Int.le_refl _)
  rw [← hseg] at s1 s2
  refine ⟨hv2, ?_, ?_⟩
  · have e : assignP (assignP l base) base = (assignP l base).map (renT (tsOf (assignP l base) base)) := by
      show (if validP (assignP l base) base = true then _ else _) = _
      rw [if_pos hv2, allocP_eq hv2]
    rw [e]
    have hid : ∀ y, nm (tsOf (assignP l base) base) y = y := fun y => by
      unfold nm num?
      cases hf : (tsOf (assignP l base) base).find? (fun t => t.x == y) with
      | none => rfl
      | some t =>
        have h1 := (s1.id t (List.mem_of_find?_eq_some hf)).1
        have h2 := List.find?_some hf
        show t.n = y
        rw [h1]; simpa using h2
    have hr1 : ∀ x, renT (tsOf (assignP l base) base) x = x := fun x => by unfold renT; rw [hid, hid]
    rw [show renT (tsOf (assignP l base) base) = (fun x => x) from funext hr1, List.map_id']
  · have e1 : needP l base = mostFrom (laOf l base) base 0 (segOf l) [] 0 := by unfold needP; rw [if_pos h, most_eq h]
    have e2 : needP (assignP l base) base = mostFrom (laOf (assignP l base) base) base 0 (segOf (assignP l base)) [] 0 := by unfold needP; rw [if_pos hv2, most_eq hv2]
    rw [e1, e2]
    have hN := most_ge (laOf l base) base (segOf l) 0 [] 0
    refine Int.le_antisymm ?_ s2
    refine most_le hN (segOf (assignP l base)) 0 [] 0 _ rfl s1.keys' (fun t ht => ?_) hN
    obtain ⟨u, hu, e⟩ := (s1.has t.x).1 (List.any_eq_true.2 ⟨t, ht, by simp⟩)
    rw [← e]
    refine ⟨hn u hu, ?_⟩
    rw [hF] at hu
    rcases all_le (segOf l) 0 [] 0 u hu with h1 | h1
    · cases h1
    · exact h1
end Go.Proofs.Yteffpeokialeiaa
