/-
  Plain law: what is read comes from the same instruction.
-/
import Derived.Test.YteffpeokialeiaaDa
import Derived.Test.YteffpeokialeiaaDc
namespace Go.Proofs.Yteffpeokialeiaa
open Go.RowKit

/-- at each instruction, what is in use has distinct numbers; what was seen is numbered -/
theorem use_all {la : Int → Nat} {base : Int} : ∀ (l : Seg) (k : Nat) (ts : List Tm) (s : St) (seen : Int → Prop),
    (∀ x, base < x → (has ts x = true ↔ seen x)) → (∀ t ∈ ts, t.f < k) → Fit la base k l seen → Ok la base ts (fun t => decide (k ≤ t.l)) s →
    ∀ (j : Nat) (p : List Int × List Int), l[j]? = some p → ∀ y z, base < y → base < z → (seen y ∨ ∃ i, i ≤ j ∧ ∃ q, l[i]? = some q ∧ y ∈ q.2) → k + j < la y → z ∈ p.2 → nm (numFrom la base k l ts) y = nm (numFrom la base k l ts) z → y = z
  | [], _, _, _, _, _, _, _, _ => fun j p hp => by simp at hp
  | (rd, wr) :: l, k, ts, s, seen, hs, hf, hfit, h => by
    obtain ⟨h1, h2, h3, ⟨s', h4⟩, _⟩ := ok_step hs hf hfit h
    have ih := use_all l (k + 1) _ _ (fun x => seen x ∨ x ∈ wr) (fun x hb => by rw [has_numFold wr ts x hb, hs x hb]) (fun t ht => by have := h2 t ht; omega) hfit.2.2.2.2.2 h1
    obtain ⟨ex, he, _⟩ := numFrom_ext la base l (k + 1) (wr.foldl (numStep la base k wr) ts)
    intro j p hp y z hby hbz hy hk hz e
    cases j with
    | zero =>
      simp only [List.getElem?_cons_zero, Option.some.injEq] at hp
      subst hp
      have hy' : seen y ∨ y ∈ wr := by
        rcases hy with hy | ⟨i, hi, q, hq, hy⟩
        · exact .inl hy
        · have : i = 0 := by omega
          subst this
          simp only [List.getElem?_cons_zero, Option.some.injEq] at hq
          subst hq; exact .inr hy
      obtain ⟨t, ht, rfl⟩ := has_mem ((has_numFold (la := la) (k := k) (wr := wr) wr ts y hby).2 (hy'.imp (hs y hby).2 id))
      obtain ⟨u, hu, rfl⟩ := has_mem ((has_numFold (la := la) (k := k) (wr := wr) wr ts z hbz).2 (.inr hz))
      have e2 : numFrom la base k ((rd, wr) :: l) ts = wr.foldl (numStep la base k wr) ts ++ ex := he
      rw [e2, nm_mem h4.keys ht, nm_mem h4.keys hu] at e
      have u1 : Tm.used t k wr = true := by
        unfold Tm.used
        rw [show decide (t.f ≤ k) = true by simpa using h2 t ht, show decide (k < t.l) = true by rw [h4.last t ht]; simpa using hk]; simp
      have u2 : Tm.used u k wr = true := by
        unfold Tm.used
        have hz' : u.x ∈ wr := hz
        rw [show decide (u.f ≤ k) = true by simpa using h2 u hu, show wr.contains u.x = true by simpa using hz']; simp
      rw [ok_inj h4 ht hu u1 u2 e]
    | succ j =>
      refine ih j p (by simpa using hp) y z hby hbz ?_ (by omega) hz e
      rcases hy with hy | ⟨i, hi, q, hq, hy⟩
      · exact .inl (.inl hy)
      · cases i with
        | zero =>
          simp only [List.getElem?_cons_zero, Option.some.injEq] at hq
          subst hq; exact .inl (.inr hy)
        | succ i => exact .inr ⟨i, by omega, q, by simpa using hq, hy⟩
theorem vl_seen {base : Int} : ∀ (l : List In) (s : List Int) (k : Nat) (x : In) (y : Int), vl base l s = true → l[k]? = some x → y ∈ rdOf x → base < y → y ∈ s ∨ ∃ i, i < k ∧ ∃ q, l[i]? = some q ∧ y ∈ wrOf q
  | [], _, _, _, _, _, h, _, _ => by simp at h
  | z :: l, s, k, x, y, hv, hx, hy, hb => by
    unfold vl at hv
    simp only [Bool.and_eq_true] at hv
    cases k with
    | zero =>
      simp only [List.getElem?_cons_zero, Option.some.injEq] at hx
      subst hx
      have := List.all_eq_true.1 hv.2.1 y hy
      simp only [Bool.not_eq_true', Bool.and_eq_false_iff, decide_eq_false_iff_not, Bool.not_eq_false', List.contains_iff_mem] at this
      exact .inl (this.resolve_left (fun h => h hb))
    | succ k =>
      rcases vl_seen l _ k x y hv.2.2 (by simpa using hx) hy hb with h | ⟨i, hi, q, hq, h⟩
      · rcases List.mem_append.1 h with h | h
        · exact .inl h
        · exact .inr ⟨0, by omega, z, rfl, h⟩
      · exact .inr ⟨i + 1, by omega, q, by simpa using hq, h⟩
/-- the last writer is the same, if no other register of the same name is written between -/
theorem writer_map {l m : List In} {f : Int → Int} (hm : ∀ (j : Nat) x, l[j]? = some x → ∃ y, m[j]? = some y ∧ wrOf y = (wrOf x).map f) (p : Int) : ∀ k : Nat, k ≤ l.length →
    (∀ (j : Nat) x, j < k → l[j]? = some x → ∀ z ∈ wrOf x, f z = f p → z = p ∨ ∃ i, j < i ∧ i < k ∧ ∃ u, l[i]? = some u ∧ p ∈ wrOf u) → writerP l k p = writerP m k (f p)
  | 0, _, _ => rfl
  | k + 1, hk, h => by
    have hx : l[k]? = some (l[k]'(by omega)) := List.getElem?_eq_getElem _
    obtain ⟨y, hy, hw⟩ := hm k _ hx
    by_cases hp : p ∈ wrOf (l[k]'(by omega))
    · obtain ⟨j, hj⟩ := List.mem_iff_getElem?.1 hp
      rw [writer_yes hx hj, writer_yes hy (j := j) (by rw [hw, List.getElem?_map, hj]; rfl)]
    · rw [writer_no hx (fun j y hj e => hp (by rw [← e]; exact List.mem_of_getElem? hj))]
      rw [writer_no hy (fun j z hj e => by
        rw [hw] at hj
        obtain ⟨u, hu, e2⟩ := List.mem_map.1 (List.mem_of_getElem? hj)
        rcases h k _ (by omega) hx u hu (by rw [e2, e]) with h | ⟨i, h1, h2, _⟩
        · exact hp (h ▸ hu)
        · omega)]
      refine writer_map hm p k (by omega) (fun j x hj hx' z hz e => ?_)
      rcases h j x (by omega) hx' z hz e with h | ⟨i, h1, h2, u, hu, h3⟩
      · exact .inl h
      · by_cases e3 : i = k
        · subst e3
          rw [hx] at hu; injection hu with hu
          exact absurd (hu ▸ h3) hp
        · exact .inr ⟨i, h1, by omega, u, hu, h3⟩

theorem ren_facts {l : List In} {base : Int} (h : validP l base = true) : ∀ x ∈ l, rdOf (renT (tsOf l base) x) = (rdOf x).map (nm (tsOf l base)) ∧ wrOf (renT (tsOf l base) x) = (wrOf x).map (nm (tsOf l base)) := by
  obtain ⟨b0, b1⟩ := valid_base h
  have hv := vl_of h
  have hfo := valid_fo hv
  obtain ⟨F, hF⟩ : ∃ F, F = tsOf l base := ⟨_, rfl⟩
  rw [← hF]
  have hlow : ∀ y, y ≤ base → nm F y = y := fun y hy => by rw [hF]; exact nm_low hy
  have hbd : Bd base 4096 F := by
    rw [hF]
    refine Bd.all (segOf l) 0 ⟨List.Pairwise.nil, fun t ht => (by cases ht), fun t ht => (by cases ht)⟩ (fun p hp x hx => ?_)
    obtain ⟨z, hz, rfl⟩ := List.mem_map.1 hp
    exact wr_le (hfo z hz) x hx
  have hhigh : ∀ y, base < y → y ≤ 4096 → base < nm F y ∧ nm F y ≤ 4096 := fun y h1 h2 => by
    refine ⟨by rw [hF]; exact nm_high h1, ?_⟩
    unfold nm num?
    cases hf : F.find? (fun t => t.x == y) with
    | none => exact h2
    | some t => exact hbd.n t (List.mem_of_find?_eq_some hf)
  have hinj := inj_seg h
  rw [← hF] at hinj
  have full : ∀ L : List Int, InjL base (nm F) L → ∀ y ∈ L, ∀ z ∈ L, nm F y = nm F z → y = z := fun L hL y hy z hz e => by
    have nh : ∀ y, base < y → base < nm F y := fun y h1 => by rw [hF]; exact nm_high h1
    by_cases c1 : base < y
    · by_cases c2 : base < z
      · exact hL y hy z hz c1 c2 e
      · have := nh y c1; rw [hlow z (by omega)] at e; omega
    · by_cases c2 : base < z
      · have := nh z c2; rw [hlow y (by omega)] at e; omega
      · rw [hlow y (by omega), hlow z (by omega)] at e; exact e
  intro x hx
  have hi := hinj (rdOf x, wrOf x) (List.mem_map.2 ⟨x, hx, rfl⟩)
  exact (kd_ren b0 hlow hhigh (hfo x hx) (valid_ar hv x hx) (full _ hi.1) (full _ hi.2)).2
theorem flow_plain {l : List In} {base : Int} (h : validP l base = true) (k : Nat) (x y : In) (hx : l[k]? = some x) (hy : (assignP l base)[k]? = some y) :
    (rdOf y).length = (rdOf x).length ∧ (wrOf y).length = (wrOf x).length ∧ ∀ (j : Nat) p q, (rdOf x)[j]? = some p → (rdOf y)[j]? = some q → writerP l k p = writerP (assignP l base) k q := by
  have hr := ren_facts h
  have hm : assignP l base = l.map (renT (tsOf l base)) := by unfold assignP; rw [if_pos h, allocP_eq h]
  rw [hm, List.getElem?_map, hx] at hy
  injection hy with hy
  have hy2 : y = renT (tsOf l base) x := hy.symm
  obtain ⟨r1, r2⟩ := hr x (List.mem_of_getElem? hx)
  rw [← hy2] at r1 r2
  refine ⟨by rw [r1, List.length_map], by rw [r2, List.length_map], fun j p q hp hq => ?_⟩
  rw [r1, List.getElem?_map, hp] at hq
  injection hq with hq
  rw [← hq, hm]
  have hkl := (List.getElem?_eq_some_iff.1 hx).1
  refine writer_map (f := nm (tsOf l base)) (fun i u hu => ⟨_, by rw [List.getElem?_map, hu]; rfl, (hr u (List.mem_of_getElem? hu)).2⟩) p k (by omega) (fun i u hi hu z hz e => ?_)
  by_cases c1 : base < p
  · by_cases c2 : base < z
    · rcases Classical.em (∃ i', i < i' ∧ i' < k ∧ ∃ u, l[i']? = some u ∧ p ∈ wrOf u) with hlater | hlater
      · exact .inr hlater
      · left
        have hpr : p ∈ rdOf x := List.mem_of_getElem? hp
        have hseen := vl_seen l [] k x p (vl_of h) hx hpr c1
        obtain ⟨i', hi', v, hv, hpv⟩ := hseen.resolve_left (by simp)
        have hle : i' ≤ i := by
          apply Classical.byContradiction
          intro hn
          exact hlater ⟨i', by omega, hi', v, hv, hpv⟩
        have hla : k ≤ laOf l base p := by
          obtain ⟨i2, h2, h3⟩ := last_ge base l 0 (fun _ => none) p k x hx c1 (.inl hpr)
          unfold laOf lastO
          rw [h2]; show k ≤ i2; omega
        exact (use_all (segOf l) 0 [] (st0 base) (fun _ => False) (fun y _ => by simp [has]) (fun t ht => by cases ht) (fit_of_valid h) (ok_start _ _) i (rdOf u, wrOf u) (by unfold segOf; rw [List.getElem?_map, hu]; rfl) p z c1 c2
          (.inr ⟨i', hle, (rdOf v, wrOf v), by unfold segOf; rw [List.getElem?_map, hv]; rfl, hpv⟩) (by omega) hz e.symm).symm
    · have := nm_high (l := l) c1
      rw [nm_low (by omega : z ≤ base)] at e; omega
  · left
    by_cases c2 : base < z
    · have := nm_high (l := l) c2
      rw [nm_low (by omega : p ≤ base)] at e; omega
    · rw [nm_low (by omega : p ≤ base), nm_low (by omega : z ≤ base)] at e; exact e
end Go.Proofs.Yteffpeokialeiaa
