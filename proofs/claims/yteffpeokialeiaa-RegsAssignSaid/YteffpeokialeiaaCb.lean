/-
  Plain: the segment that regs.allocate returns.
-/
import Derived.Test.YteffpeokialeiaaCa
namespace Go.Proofs.Yteffpeokialeiaa
open Go.RowKit

theorem kd_occ {x : In} (h : fo x = true) : (x.r ≠ 0 → x.r ∈ rdOf x ∨ x.r ∈ wrOf x) ∧ (x.a ≠ 0 → x.a ∈ rdOf x ∨ x.a ∈ wrOf x) := by
  have pr : ∀ r a : Int, r ∈ (if [r].contains a then [r] else [r, a]) ∧ a ∈ (if [r].contains a then [r] else [r, a]) := fun r a => by
    split
    · rename_i h; simp at h; simp [h]
    · simp
  rcases kinds h with h | h | h | h | h | h | h | h | h | ⟨h, _⟩
  all_goals
    obtain ⟨_, hr, hw⟩ := h.ren x.r x.a h.r h.a
    have e : ({ x with r := x.r, a := x.a } : In) = x := rfl
    rw [e] at hr hw
    rw [hr, hw]
    have h1 := h.r
    have h2 := h.a
    simp only [fits] at h1 h2
    refine ⟨fun h0 => ?_, fun h0 => ?_⟩
    all_goals first | exact absurd h1 h0 | exact absurd h2 h0 | (simp; done) | exact .inl (pr _ _).1 | exact .inl (pr _ _).2 | exact .inr (pr _ _).1 | exact .inr (pr _ _).2
theorem leastFrom_ge (l : List Int) : ∀ (fuel : Nat) (n : Int), n ≤ leastFrom l fuel n
  | 0, n => Int.le_refl _
  | fuel + 1, n => by
    unfold leastFrom
    split
    · have := leastFrom_ge l fuel (n + 1); omega
    · exact Int.le_refl _
theorem least_gt (base : Int) (l : List Int) : base < least base l := by
  have := leastFrom_ge l (l.length + 1) (base + 1)
  unfold least; omega
theorem numStep_gt {la : Int → Nat} {base : Int} {k : Nat} {wr : List Int} : ∀ (l : List Int) (ts : List Tm), (∀ t ∈ ts, base < t.n) → ∀ t ∈ l.foldl (numStep la base k wr) ts, base < t.n
  | [], _, h => h
  | x :: l, ts, h => by
    rw [List.foldl_cons]
    refine numStep_gt l _ ?_
    unfold numStep
    split
    · exact h
    · intro t ht
      rcases List.mem_append.1 ht with ht | ht
      · exact h t ht
      · rw [List.mem_singleton.1 ht]; exact least_gt _ _
theorem numFrom_gt {la : Int → Nat} {base : Int} : ∀ (l : Seg) (k : Nat) (ts : List Tm), (∀ t ∈ ts, base < t.n) → ∀ t ∈ numFrom la base k l ts, base < t.n
  | [], _, _, h => h
  | (_, wr) :: l, k, ts, h => numFrom_gt l (k + 1) _ (numStep_gt wr ts h)
theorem alloc_eq (la : Int → Nat) {base : Int} (hb0 : 0 ≤ base) : ∀ (t : List In) (k : Nat) (ts : List Tm) (s : St) (seen : Int → Prop) (out : List In),
    (∀ x ∈ t, fo x = true) → (∀ x, base < x → (has ts x = true ↔ seen x)) → (∀ t ∈ ts, t.f < k) → Fit la base k (segOf t) seen → Ok la base ts (fun t => decide (k ≤ t.l)) s →
    allocI la base k t s out = (out ++ t.map (renT (numFrom la base k (segOf t) ts)), allocFrom la base k (segOf t) s)
  | [], k, ts, s, seen, out, _, _, _, _, _ => by simp [allocI, segOf, allocFrom]
  | x :: t, k, ts, s, seen, out, hfo, hs, hf, hfit, hok => by
    obtain ⟨h1, h2, h3, _, h4⟩ := ok_step hs hf hfit hok
    have ih := alloc_eq la hb0 t (k + 1) ((wrOf x).foldl (numStep la base k (wrOf x)) ts) (instrStep la base k (rdOf x) (wrOf x) s) (fun y => seen y ∨ y ∈ wrOf x)
      (out ++ [renI (instrStep la base k (rdOf x) (wrOf x) s).num x]) (fun y hy => hfo y (List.mem_cons_of_mem _ hy)) (fun y hb => by rw [has_numFold (wrOf x) ts y hb, hs y hb]) (fun u hu => by have := h2 u hu; omega) hfit.2.2.2.2.2 h1
    have hren : renI (instrStep la base k (rdOf x) (wrOf x) s).num x = renT (numFrom la base k (segOf (x :: t)) ts) x := by
      obtain ⟨ex, he, hx⟩ := numFrom_ext la base (segOf t) (k + 1) ((wrOf x).foldl (numStep la base k (wrOf x)) ts)
      have hfin : numFrom la base k (segOf (x :: t)) ts = (wrOf x).foldl (numStep la base k (wrOf x)) ts ++ ex := he
      have hlow : ∀ u ∈ (wrOf x).foldl (numStep la base k (wrOf x)) ts ++ ex, base < u.x := fun u hu => by
        rcases List.mem_append.1 hu with hu | hu
        · exact h1.above u hu
        · exact (hx u hu).2.1
      have key : ∀ y, (base < y → y ∈ rdOf x ∨ y ∈ wrOf x) → (look (instrStep la base k (rdOf x) (wrOf x) s).num y).getD y = nm (numFrom la base k (segOf (x :: t)) ts) y := fun y hy => by
        unfold nm
        rw [h4 y, hfin]
        by_cases hb : base < y
        · have hh : has ((wrOf x).foldl (numStep la base k (wrOf x)) ts) y = true := by
            rw [has_numFold (wrOf x) ts y hb, hs y hb]
            rcases hy hb with h | h
            · exact .inl (hfit.2.2.1 y h hb)
            · exact .inr h
          rw [num_app hh]
        · rw [num_low hlow (by omega), num_low h1.above (by omega)]
      have hocc := kd_occ (hfo x List.mem_cons_self)
      unfold renI renT
      rw [key x.r (fun hb => hocc.1 (by omega)), key x.a (fun hb => hocc.2 (by omega))]
    show allocI la base (k + 1) t _ _ = _
    rw [ih, hren]
    have e : numFrom la base k (segOf (x :: t)) ts = numFrom la base (k + 1) (segOf t) ((wrOf x).foldl (numStep la base k (wrOf x)) ts) := rfl
    rw [← e]
    simp only [List.map_cons, List.append_assoc, List.singleton_append]
    rfl
theorem valid_fo {base : Int} : ∀ {l : List In} {s : List Int}, vl base l s = true → ∀ x ∈ l, fo x = true
  | [], _, _, x, hx => by cases hx
  | y :: l, s, h, x, hx => by
    unfold vl at h
    simp only [Bool.and_eq_true, Bool.not_eq_true'] at h
    rcases List.mem_cons.1 hx with rfl | hx
    · have := h.1
      unfold badB at this
      simp only [Bool.or_eq_false_iff, Bool.not_eq_false'] at this
      exact this.1
    · exact valid_fo h.2.2 x hx
theorem vl_of {l : List In} {base : Int} (h : validP l base = true) : vl base l [] = true := by
  unfold validP at h; simp only [Bool.and_eq_true] at h; exact h.2
theorem ok_start (la : Int → Nat) (base : Int) : Ok la base [] (fun t => decide (0 ≤ t.l)) (st0 base) :=
  ⟨fun _ => rfl, List.Pairwise.nil, fun t ht => (by cases ht), fun t ht => (by cases ht), List.Pairwise.nil, by simp [st0, upFrom], by show base < base + 1; omega, rfl⟩
theorem allocP_eq {l : List In} {base : Int} (h : validP l base = true) : allocP l base = (l.map (renT (tsOf l base)), allocFrom (laOf l base) base 0 (segOf l) (st0 base)) := by
  have hb : 0 ≤ base := by unfold validP at h; simp only [Bool.and_eq_true, decide_eq_true_eq] at h; exact h.1.1
  have := alloc_eq (laOf l base) hb l 0 [] (st0 base) (fun _ => False) [] (valid_fo (vl_of h)) (fun y _ => by simp [has]) (fun t ht => by cases ht) (fit_of_valid h) (ok_start _ _)
  simpa [allocP, tsOf] using this
theorem most_eq {l : List In} {base : Int} (h : validP l base = true) : (allocP l base).2.most = mostFrom (laOf l base) base 0 (segOf l) [] 0 := by
  rw [allocP_eq h]
  exact (ok_all (segOf l) 0 [] (st0 base) (fun _ => False) (fun y _ => by simp [has]) (fun t ht => by cases ht) (fit_of_valid h) (ok_start _ _)).2
end Go.Proofs.Yteffpeokialeiaa
