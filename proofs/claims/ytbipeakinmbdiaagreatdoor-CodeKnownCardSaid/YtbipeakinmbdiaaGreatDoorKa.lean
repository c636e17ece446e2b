/-
  A region that draws its order: a load may be taken first where the operations that may come before it keep a condition on the world; nothing is asked behind the operations that wait for all loads. A drawn region in which one of two operations comes up. A drawn region in which two operations come up together: both orders lead to one relation.
-/
import Derived.WalkKit
import Derived.OrdersHeld
namespace Go.Proofs.YtbipeakinmbdiaaGreatDoor
section
open Go

section
variable {P : Program} {ops : Array Oper} {Q : Exit → Act → World → Prop} {md : Region.Mode} {S : World → Prop} {need : Nat → Bool}

/-- whatever order is picked from here on; S holds behind each operation that needs it -/
def wpAnyN (P : Program) (md : Region.Mode) (ops : Array Oper) (Q : Exit → Act → World → Prop) (S : World → Prop) (need : Nat → Bool) : Nat → Array Bool → Act → World → Prop
  | 0, listed, a, w => Region.ready md ops listed = [] ∧ Q .normal a w
  | fuel + 1, listed, a, w =>
    (Region.ready md ops listed = [] → Q .normal a w) ∧
    ∀ i ∈ Region.ready md ops listed, wpOp P ops Q i (fun a' w' => (need i = true → S w') ∧ wpAnyN P md ops Q S need fuel (listed.setIfInBounds i true) a' w') a w

theorem wpAny_of_N : ∀ (fuel : Nat) (listed : Array Bool) (a : Act) (w : World), wpAnyN P md ops Q S need fuel listed a w → wpAny P md ops Q fuel listed a w
  | 0, _, _, _, h => h
  | fuel + 1, _, _, _, h => ⟨h.1, fun i hi => wpOp_mono (fun a' w' h' => wpAny_of_N fuel _ a' w' h'.2) (h.2 i hi)⟩

theorem wpAnyN_first {i : Nat} {oi : Oper} {v : Value} (hi : ops[i]? = some oi) (hsel : ∀ (j : Nat) (o : Oper) cs b, ops[j]? = some o → o.op ≠ .select cs b)
    (hQ : ∀ c a w, Q (.panic c) (a.put oi.dst v) w → Q (.panic c) a w) :
    ∀ (fuel : Nat) (listed : Array Bool) (a : Act) (w : World),
      (∀ j oj, ops[j]? = some oj → j ≠ i → listed.getD j true = false → (∀ e ∈ oj.after, Region.binds md e = true → e.on ≠ i) → oi.apart ops oj = true ∧ need j = true) →
      i ∈ Region.ready md ops listed → YieldsIf P ops S oi v a → S w →
      wpAnyN P md ops Q S need fuel (listed.setIfInBounds i true) (a.put oi.dst v) w → wpAnyN P md ops Q S need (fuel + 1) listed a w := by
  intro fuel
  induction fuel with
  | zero =>
    intro listed a w _ hr hy hS H
    refine ⟨fun h => (by rw [h] at hr; cases hr), fun j hj => ?_⟩
    by_cases hji : j = i
    · subst hji; exact hy.wpOp hi hS ⟨fun _ => hS, H⟩
    · have := ready_mono hj hji
      rw [H.1] at this
      cases this
  | succ fuel ih =>
    intro listed a w hfree hr hy hS H
    refine ⟨fun h => (by rw [h] at hr; cases hr), fun j hj => ?_⟩
    by_cases hji : j = i
    · subst hji; exact hy.wpOp hi hS ⟨fun _ => hS, H⟩
    · have h1 := H.2 j (ready_mono hj hji)
      obtain ⟨hjun, oj, hoj, hall⟩ := mem_ready.1 hj
      have hnot : ∀ e ∈ oj.after, Region.binds md e = true → e.on ≠ i := fun e he hb heq => by
        have h1 := hall e he hb
        have h0 := (mem_ready.1 hr).1
        rw [heq] at h1
        rcases Nat.lt_or_ge i listed.size with h' | h'
        · simp [h'] at h0 h1; rw [h0] at h1; cases h1
        · simp [Array.getElem?_eq_none h'] at h1
      have hneed := (hfree j oj hoj hji hjun hnot).2
      have h2 := wpOp_putIf hoj (hfree j oj hoj hji hjun hnot).1 (fun cs b => hsel i oi cs b hi) (fun cs b => hsel j oj cs b hoj) hQ hy h1
      have hfree' : ∀ k ok, ops[k]? = some ok → k ≠ i → (listed.setIfInBounds j true).getD k true = false →
          (∀ e ∈ ok.after, Region.binds md e = true → e.on ≠ i) → oi.apart ops ok = true ∧ need k = true := fun k ok hk hki hun hno => by
        refine hfree k ok hk hki ?_ hno
        by_cases hjk : j = k
        · subst hjk; exact hjun
        · rw [getD_set_ne true hjk] at hun; exact hun
      refine wpOp_mono (fun a' w' h3 => ⟨h3.2.1, ih (listed.setIfInBounds j true) a' w' hfree' (ready_mono hr (Ne.symm hji)) h3.1 (h3.2.1 hneed) ?_⟩) h2
      rw [Array.setIfInBounds_comm _ _ hji]
      exact h3.2.2

/-- the operations that may come before number i need S behind them -/
def needOk (md : Region.Mode) (ops : Array Oper) (listed : Array Bool) (need : Nat → Bool) (i : Nat) : Bool :=
  (List.range ops.size).all fun j => j == i || listed.getD j true || (match ops[j]? with
    | some oj => oj.after.any (fun e => Region.binds md e && e.on == i) || need j
    | none => true)

theorem wpAnyN_take {i : Nat} {oi : Oper} {v : Value} {fuel : Nat} {listed : Array Bool} {a : Act} {w : World} (hi : ops[i]? = some oi)
    (hs : Region.noSelect ops = true) (hf : Region.free md ops listed i = true) (hn : needOk md ops listed need i = true) (hr : (Region.ready md ops listed).contains i = true)
    (hQ : ∀ c a w, Q (.panic c) (a.put oi.dst v) w → Q (.panic c) a w) (hy : YieldsIf P ops S oi v a) (hS : S w)
    (h : wpAnyN P md ops Q S need fuel (listed.setIfInBounds i true) (a.put oi.dst v) w) : wpAnyN P md ops Q S need (fuel + 1) listed a w := by
  refine wpAnyN_first hi (Region.noSelect_spec hs) hQ fuel listed a w (fun j oj hj hne hun hno => ⟨Region.free_spec hi hf j oj hj hne hun hno, ?_⟩) (by simpa using hr) hy hS h
  have h1 := List.all_eq_true.1 hn j (List.mem_range.2 (Array.getElem?_eq_some_iff.1 hj).1)
  simp only [hj, Bool.or_eq_true, beq_iff_eq, hne, false_or, hun, Bool.false_eq_true] at h1
  rcases h1 with h1 | h1
  · obtain ⟨e, he, hb⟩ := Array.any_eq_true'.1 h1
    simp only [Bool.and_eq_true, beq_iff_eq] at hb
    exact absurd hb.2 (hno e he hb.1)
  · exact h1

/-- one operation alone may come up, and nobody waits for S behind it -/
theorem wpAnyN_one {i : Nat} {o : Oper} {fuel : Nat} {listed : Array Bool} {a : Act} {w : World} (hr : Region.ready md ops listed = [i]) (ho : ops[i]? = some o)
    (h : ∀ K : Act → World → Prop, (∀ a w, (need i = true → S w) → wpAnyN P md ops Q S need fuel (listed.setIfInBounds i true) a w → K a w) → if Region.wanted o (yielded ops a.tmps) = true then Oper.wp P o a w K Q else K (a.put o.dst undef) w) :
    wpAnyN P md ops Q S need (fuel + 1) listed a w := by
  refine ⟨fun h0 => absurd (hr ▸ h0) (by simp), fun j hj => ?_⟩
  rw [hr, List.mem_singleton] at hj
  subst hj
  exact wpOp_step ho (fun K' hK => h K' (fun a w hS hW => hK a w ⟨hS, hW⟩))

theorem wpAnyN_done {listed : Array Bool} {a : Act} {w : World} (hr : Region.ready md ops listed = []) (h : Q .normal a w) :
    ∀ fuel, wpAnyN P md ops Q S need fuel listed a w
  | 0 => ⟨hr, h⟩
  | _ + 1 => ⟨fun _ => h, by rw [hr]; simp⟩

theorem wp_region_N {id : Nat} {a : Act} {w : World} (S : World → Prop) (need : Nat → Bool) (hm : P.follows .mixedOrders = true)
    (h : wpAnyN P .any ops Q S need ops.size (Array.replicate ops.size false) a w.drew) : (Code.region id ops true).wp P Q a w :=
  wp_region_any hm (wpAny_of_N _ _ _ _ h)
end
end
section
open Go

section
variable {P : Program} {ops : Array Oper} {Q : Exit → Act → World → Prop} {md : Region.Mode} {S : World → Prop} {need : Nat → Bool}
/-- one of two operations comes up -/
theorem wpAnyN_two {i j : Nat} {oi oj : Oper} {fuel : Nat} {listed : Array Bool} {a : Act} {w : World} (hr : Region.ready md ops listed = [i, j]) (hoi : ops[i]? = some oi) (hoj : ops[j]? = some oj)
    (h1 : ∀ K : Act → World → Prop, (∀ a w, (need i = true → S w) → wpAnyN P md ops Q S need fuel (listed.setIfInBounds i true) a w → K a w) → if Region.wanted oi (yielded ops a.tmps) = true then Oper.wp P oi a w K Q else K (a.put oi.dst undef) w)
    (h2 : ∀ K : Act → World → Prop, (∀ a w, (need j = true → S w) → wpAnyN P md ops Q S need fuel (listed.setIfInBounds j true) a w → K a w) → if Region.wanted oj (yielded ops a.tmps) = true then Oper.wp P oj a w K Q else K (a.put oj.dst undef) w) :
    wpAnyN P md ops Q S need (fuel + 1) listed a w := by
  refine ⟨fun h0 => absurd (hr ▸ h0) (by simp), fun k hk => ?_⟩
  rw [hr] at hk
  simp only [List.mem_cons, List.not_mem_nil, or_false] at hk
  rcases hk with rfl | rfl
  · exact wpOp_step hoi (fun K' hK => h1 K' (fun a w hS hW => hK a w ⟨hS, hW⟩))
  · exact wpOp_step hoj (fun K' hK => h2 K' (fun a w hS hW => hK a w ⟨hS, hW⟩))
end
end
section
open Go

section
variable {P : Program} {ops : Array Oper} {Q : Exit → Act → World → Prop} {md : Region.Mode} {S : World → Prop} {need : Nat → Bool}
/-- one operation is walked -/
def stepsTo (P : Program) (ops : Array Oper) (Q : Exit → Act → World → Prop) (o : Oper) (a : Act) (w : World) (R : Act → World → Prop) : Prop :=
  ∀ K : Act → World → Prop, (∀ a w, R a w → K a w) → if Region.wanted o (yielded ops a.tmps) = true then Oper.wp P o a w K Q else K (a.put o.dst undef) w
theorem wpAnyN_pair {i j : Nat} {oi oj : Oper} {fuel : Nat} {listed : Array Bool} {a : Act} {w : World} (Rel : Act → World → Prop) (hr : Region.ready md ops listed = [i, j])
    (hri : Region.ready md ops (listed.setIfInBounds i true) = [j]) (hrj : Region.ready md ops (listed.setIfInBounds j true) = [i]) (hij : i ≠ j) (hoi : ops[i]? = some oi) (hoj : ops[j]? = some oj)
    (hS : ∀ a w, Rel a w → S w)
    (h1 : stepsTo P ops Q oi a w fun a1 w1 => S w1 ∧ stepsTo P ops Q oj a1 w1 Rel)
    (h2 : stepsTo P ops Q oj a w fun a1 w1 => S w1 ∧ stepsTo P ops Q oi a1 w1 Rel)
    (h : ∀ a w, Rel a w → wpAnyN P md ops Q S need fuel ((listed.setIfInBounds i true).setIfInBounds j true) a w) :
    wpAnyN P md ops Q S need (fuel + 2) listed a w := by
  refine wpAnyN_two hr hoi hoj (fun K hK => h1 K fun a1 w1 hs => hK a1 w1 (fun _ => hs.1) ?_) (fun K hK => h2 K fun a1 w1 hs => hK a1 w1 (fun _ => hs.1) ?_)
  · refine wpAnyN_one hri hoj (fun K hK => hs.2 K fun a2 w2 hR => hK a2 w2 (fun _ => hS _ _ hR) (h _ _ hR))
  · refine wpAnyN_one hrj hoi (fun K hK => hs.2 K fun a2 w2 hR => hK a2 w2 (fun _ => hS _ _ hR) ?_)
    rw [Array.setIfInBounds_comm _ _ hij.symm]
    exact h _ _ hR
/-- the same, told by the two values -/
theorem wpAnyN_pairV {i j : Nat} {oi oj : Oper} {fuel : Nat} {listed : Array Bool} {a : Act} {w : World} (R : Value → Value → World → Prop) (hr : Region.ready md ops listed = [i, j])
    (hri : Region.ready md ops (listed.setIfInBounds i true) = [j]) (hrj : Region.ready md ops (listed.setIfInBounds j true) = [i]) (hij : i ≠ j) (hoi : ops[i]? = some oi) (hoj : ops[j]? = some oj)
    (hc : ∀ vi vj, (a.put oj.dst vj).put oi.dst vi = (a.put oi.dst vi).put oj.dst vj)
    (hS : ∀ vi vj w, R vi vj w → S w)
    (h1 : stepsTo P ops Q oi a w fun a1 w1 => S w1 ∧ ∃ vi, a1 = a.put oi.dst vi ∧ stepsTo P ops Q oj (a.put oi.dst vi) w1 fun a2 w2 => ∃ vj, a2 = (a.put oi.dst vi).put oj.dst vj ∧ R vi vj w2)
    (h2 : stepsTo P ops Q oj a w fun a1 w1 => S w1 ∧ ∃ vj, a1 = a.put oj.dst vj ∧ stepsTo P ops Q oi (a.put oj.dst vj) w1 fun a2 w2 => ∃ vi, a2 = (a.put oj.dst vj).put oi.dst vi ∧ R vi vj w2)
    (h : ∀ vi vj w, R vi vj w → wpAnyN P md ops Q S need fuel ((listed.setIfInBounds i true).setIfInBounds j true) ((a.put oi.dst vi).put oj.dst vj) w) :
    wpAnyN P md ops Q S need (fuel + 2) listed a w := by
  refine wpAnyN_pair (fun a' w' => ∃ vi vj, a' = (a.put oi.dst vi).put oj.dst vj ∧ R vi vj w') hr hri hrj hij hoi hoj (fun _ _ ⟨vi, vj, _, hR⟩ => hS vi vj _ hR) ?_ ?_ ?_
  · refine fun K hK => h1 K fun a1 w1 ⟨hs, vi, e1, hn⟩ => hK a1 w1 ⟨hs, ?_⟩
    subst e1
    exact fun K' hK' => hn K' fun a2 w2 ⟨vj, e2, hR⟩ => hK' a2 w2 ⟨vi, vj, e2, hR⟩
  · refine fun K hK => h2 K fun a1 w1 ⟨hs, vj, e1, hn⟩ => hK a1 w1 ⟨hs, ?_⟩
    subst e1
    exact fun K' hK' => hn K' fun a2 w2 ⟨vi, e2, hR⟩ => hK' a2 w2 ⟨vi, vj, e2.trans (hc vi vj), hR⟩
  · rintro a' w' ⟨vi, vj, rfl, hR⟩
    exact h vi vj w' hR
end
end
end Go.Proofs.YtbipeakinmbdiaaGreatDoor
