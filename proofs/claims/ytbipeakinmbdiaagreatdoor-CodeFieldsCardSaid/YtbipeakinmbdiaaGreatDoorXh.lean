/-
  Plain: beginnings and continuations of valid blocks are not valid; what an inserted instruction does to a valid block. Plain: a mark of a register that nothing names may be inserted into a valid block; what reads it may not. Plain: an instruction with a field changed that its opcode does not use is not well-formed.
-/
import Derived.Test.YtbipeakinmbdiaaGreatDoorKg
namespace Go.Proofs.YtbipeakinmbdiaaGreatDoor
section
open Go.RowKit

theorem upto_succ (ar : Int) (l : List In) (j : Nat) : upto ar l (j + 1) = (upto ar l j).bind fun c => (l[j]?).bind fun x => if fo x then stepP c x (j == 0) (j + 1 == l.length) else none := rfl
/-- two lists that begin alike: the check comes to the same, as long as neither ends -/
theorem upto_pre {ar : Int} {l m : List In} : ∀ (k : Nat), (∀ j, j < k → l[j]? = m[j]?) → k < l.length → k < m.length → upto ar l k = upto ar m k
  | 0, _, _, _ => rfl
  | k + 1, h, hl, hm => by
    rw [upto_succ, upto_succ, upto_pre k (fun j hj => h j (by omega)) (by omega) (by omega), h k (by omega)]
    rw [show (k + 1 == l.length) = false from beq_false_of_ne (by omega), show (k + 1 == m.length) = false from beq_false_of_ne (by omega)]
theorem step_end {c c' : Ck} {x : In} {fi la : Bool} (h : stepP c x fi la = some c') : isEnd x.op = la ∧ isArg x.op = decide (0 < c.args) := by
  unfold stepP at h
  by_cases h1 : (isArg x.op != decide (0 < c.args)) = true ∨ (isEnd x.op != la) = true
  · rw [if_pos h1] at h; cases h
  · clear h
    rw [not_or] at h1
    obtain ⟨h1, h2⟩ := h1
    generalize isEnd x.op = p at *
    generalize isArg x.op = q at *
    generalize decide (0 < c.args) = r at *
    revert h1 h2
    cases p <;> cases la <;> cases q <;> cases r <;> decide
theorem step_no {c : Ck} {x : In} {fi la : Bool} (h : isEnd x.op ≠ la) : stepP c x fi la = none := by
  cases hs : stepP c x fi la with
  | none => rfl
  | some d => exact absurd (step_end hs).1 h
/-- what a place of a valid block says -/
theorem upto_at {ar : Int} {l : List In} {k : Nat} (hk : k < l.length) (h : (upto ar l l.length).isSome = true) :
    ∃ c c' x, l[k]? = some x ∧ upto ar l k = some c ∧ fo x = true ∧ stepP c x (k == 0) (k + 1 == l.length) = some c' ∧ upto ar l (k + 1) = some c' := by
  cases h1 : upto ar l (k + 1) with
  | none => rw [upto_none h1 l.length (by omega)] at h; cases h
  | some c' =>
    have h2 := h1
    rw [upto_succ] at h2
    cases h3 : upto ar l k with
    | none => rw [h3] at h2; cases h2
    | some c =>
      rw [h3, List.getElem?_eq_getElem hk] at h2
      simp only [Option.bind_some] at h2
      by_cases hf : fo l[k] = true
      · rw [if_pos hf] at h2
        exact ⟨c, c', l[k], List.getElem?_eq_getElem hk, rfl, hf, h2, rfl⟩
      · rw [if_neg hf] at h2; cases h2
theorem upto_stuck {ar : Int} {l : List In} {k : Nat} {c : Ck} {x : In} (hk : k < l.length) (hx : l[k]? = some x) (hc : upto ar l k = some c) (h : stepP c x (k == 0) (k + 1 == l.length) = none) :
    (upto ar l l.length).isSome = false := by
  rw [upto_none (j := k + 1) _ l.length (by omega)]
  · rfl
  · rw [upto_succ, hc, hx]
    simp only [Option.bind_some]
    rw [h]
    split <;> rfl
theorem va_parts {b : Bk} (h : vaP b = true) : hdP b = true ∧ 1 ≤ b.code.length ∧ b.code.length ≤ 131072 ∧ (upto b.par b.code b.code.length).isSome = true := by
  unfold vaP at h
  simp only [Bool.and_eq_true, decide_eq_true_eq] at h
  exact ⟨h.1.1, h.1.2.1, h.1.2.2, h.2⟩
theorem va_not {b : Bk} (h : (upto b.par b.code b.code.length).isSome = false) : vaP b = false := by
  unfold vaP; rw [h, Bool.and_false]
/-- a proper beginning -/
theorem va_short {b : Bk} (h : vaP b = true) {k : Nat} (hk : k < b.code.length) : vaP { b with code := b.code.take k } = false := by
  obtain ⟨_, _, _, hu⟩ := va_parts h
  by_cases h0 : k = 0
  · subst h0
    unfold vaP
    simp
  · have hl : (b.code.take k).length = k := by rw [List.length_take]; omega
    obtain ⟨c, c', x, hx, hc, hf, hs, _⟩ := upto_at (k := k - 1) (by omega) hu
    refine va_not ?_
    show (upto b.par (b.code.take k) (b.code.take k).length).isSome = false
    refine upto_stuck (k := k - 1) (x := x) (c := c) (by omega) ?_ ?_ ?_
    · rw [List.getElem?_take, if_pos (by omega), hx]
    · rw [← hc]
      exact upto_pre _ (fun j hj => by rw [List.getElem?_take, if_pos (by omega)]) (by omega) (by omega)
    · refine step_no ?_
      rw [(step_end hs).1, hl]
      rw [show (k - 1 + 1 == b.code.length) = false from beq_false_of_ne (by omega), show (k - 1 + 1 == k) = true from beq_iff_eq.2 (by omega)]
      decide
/-- a further instruction -/
theorem va_long {b : Bk} (h : vaP b = true) (i : In) : vaP { b with code := b.code ++ [i] } = false := by
  obtain ⟨_, h1, _, hu⟩ := va_parts h
  obtain ⟨c, c', x, hx, hc, hf, hs, _⟩ := upto_at (k := b.code.length - 1) (by omega) hu
  refine va_not ?_
  show (upto b.par (b.code ++ [i]) (b.code ++ [i]).length).isSome = false
  refine upto_stuck (k := b.code.length - 1) (x := x) (c := c) (by simp; omega) ?_ ?_ ?_
  · rw [List.getElem?_append_left (by omega), hx]
  · rw [← hc]
    exact upto_pre _ (fun j hj => by rw [List.getElem?_append_left (by omega)]) (by simp; omega) (by omega)
  · refine step_no ?_
    rw [(step_end hs).1]
    rw [show (b.code.length - 1 + 1 == b.code.length) = true from beq_iff_eq.2 (by omega), show (b.code.length - 1 + 1 == (b.code ++ [i]).length) = false from beq_false_of_ne (by simp; omega)]
    decide
/-- a list with an instruction more at a place -/
def insL (l : List In) (k : Nat) (i : In) : List In := l.take k ++ i :: l.drop k
theorem insL_len (l : List In) (k : Nat) (i : In) : (insL l k i).length = l.length + 1 := by
  unfold insL; rw [List.length_append, List.length_cons, List.length_take, List.length_drop]; omega
theorem insL_lt {l : List In} {k j : Nat} (i : In) (hj : j < k) (hk : k < l.length) : (insL l k i)[j]? = l[j]? := by
  unfold insL; rw [List.getElem?_append_left (by rw [List.length_take]; omega), List.getElem?_take, if_pos hj]
theorem insL_at {l : List In} {k : Nat} (i : In) (hk : k < l.length) : (insL l k i)[k]? = some i := by
  unfold insL; rw [List.getElem?_append_right (by rw [List.length_take]; omega), List.length_take, show k - min k l.length = 0 by omega]; rfl
theorem insL_gt {l : List In} {k j : Nat} (i : In) (hj : k ≤ j) (hk : k < l.length) : (insL l k i)[j + 1]? = l[j]? := by
  unfold insL
  rw [List.getElem?_append_right (by rw [List.length_take]; omega), List.length_take, show j + 1 - min k l.length = (j - k) + 1 by omega, List.getElem?_cons_succ, List.getElem?_drop, show k + (j - k) = j by omega]
theorem upto_ins {ar : Int} {l : List In} {k : Nat} (i : In) (hk : k < l.length) : upto ar (insL l k i) k = upto ar l k :=
  upto_pre k (fun _ hj => insL_lt i hj hk) (by rw [insL_len]; omega) hk
/-- an instruction that can't stand where no arguments are expected, or that reads what is not defined -/
theorem va_ins_no {b : Bk} {k : Nat} {i : In} (hk : k < b.code.length) {c : Ck} (hc : upto b.par b.code k = some c) (h : ∀ fi, stepP c i fi false = none) : vaP { b with code := insL b.code k i } = false := by
  refine va_not ?_
  show (upto b.par (insL b.code k i) (insL b.code k i).length).isSome = false
  refine upto_stuck (k := k) (x := i) (c := c) (by rw [insL_len]; omega) (insL_at i hk) ((upto_ins i hk).trans hc) ?_
  rw [insL_len, show (k + 1 == b.code.length + 1) = false from beq_false_of_ne (by omega)]
  exact h _
end
section
open Go.RowKit

/-- does an instruction name a register? -/
def usesI (x : In) (f : Int) : Bool := x.r == f || (x.a == f || ((x.op == 19 || x.op == 20) && decide (f ≤ x.ar)))
def usesP (b : Bk) (f : Int) : Bool := b.code.any (usesI · f) || decide (f ≤ b.par)
theorem regs_mem (x : In) (y : Int) : ∀ (s : List UInt8) (l : List Int), y ∈ s.foldl (regStep x) l → y ∈ l ∨ y = x.r ∨ y = x.a ∨ ((112 : UInt8) ∈ s ∧ y ≤ x.ar)
  | [], _, h => .inl h
  | c :: s, l, h => by
    rcases regs_mem x y s (regStep x l c) h with h | h | h | h
    · unfold regStep at h
      split at h
      · rcases List.mem_append.1 h with h | h
        · exact .inl h
        · exact .inr (.inl (List.mem_singleton.1 h))
      · split at h
        · split at h
          · exact .inl h
          · rcases List.mem_append.1 h with h | h
            · exact .inl h
            · exact .inr (.inr (.inl (List.mem_singleton.1 h)))
        · split at h
          · rename_i hc
            rcases List.mem_append.1 h with h | h
            · exact .inl h
            · obtain ⟨i, hi, rfl⟩ := List.mem_map.1 h
              have := List.mem_range.1 hi
              exact .inr (.inr (.inr ⟨by rw [hc]; exact List.mem_cons_self, by omega⟩))
          · exact .inl h
    · exact .inr (.inl h)
    · exact .inr (.inr (.inl h))
    · exact .inr (.inr (.inr ⟨List.mem_cons_of_mem _ h.1, h.2⟩))
theorem rd_call {op : Int} (h : okOp op = true) (hm : (112 : UInt8) ∈ (sh op).2.2.1.data.toList) : op = 19 ∨ op = 20 := by
  rcases op_cases h with rfl | rfl | rfl | rfl | rfl | rfl | rfl | rfl | rfl | rfl | rfl | rfl | rfl | rfl | rfl | rfl | rfl | rfl | rfl | rfl | rfl | rfl | rfl | rfl | rfl <;> first | decide | exact absurd hm (by decide)
theorem wr_call {op : Int} (h : okOp op = true) : (112 : UInt8) ∉ (sh op).2.2.2.data.toList := by
  rcases op_cases h with rfl | rfl | rfl | rfl | rfl | rfl | rfl | rfl | rfl | rfl | rfl | rfl | rfl | rfl | rfl | rfl | rfl | rfl | rfl | rfl | rfl | rfl | rfl | rfl | rfl <;> decide
theorem uses_not {x : In} {f : Int} (h : usesI x f = false) : x.r ≠ f ∧ x.a ≠ f ∧ ((x.op = 19 ∨ x.op = 20) → ¬ f ≤ x.ar) := by
  unfold usesI at h
  simp only [Bool.or_eq_false_iff, beq_eq_false_iff_ne, Bool.and_eq_false_iff, decide_eq_false_iff_not] at h
  refine ⟨h.1, h.2.1, fun e => ?_⟩
  rcases h.2.2 with ⟨h1, h2⟩ | h3
  · rcases e with e | e
    · exact absurd e h1
    · exact absurd e h2
  · exact h3
theorem rd_free {x : In} {f : Int} (hx : fo x = true) (h : usesI x f = false) : f ∉ rdOf x := by
  obtain ⟨h1, h2, h3⟩ := uses_not h
  intro hm
  unfold rdOf regsOf at hm
  rw [if_pos hx] at hm
  rcases regs_mem x f _ [] hm with h | h | h | h
  · cases h
  · exact h1 h.symm
  · exact h2 h.symm
  · exact h3 (rd_call (fo_op hx) h.1) h.2
theorem wr_free {x : In} {f : Int} (hx : fo x = true) (h : usesI x f = false) : f ∉ wrOf x := by
  obtain ⟨h1, h2, h3⟩ := uses_not h
  intro hm
  unfold wrOf regsOf at hm
  rw [if_pos hx] at hm
  rcases regs_mem x f _ [] hm with h | h | h | h
  · cases h
  · exact h1 h.symm
  · exact h2 h.symm
  · exact wr_call (fo_op hx) h.1
/-- two states that differ in one register alone -/
structure Sim (f : Int) (c e : Ck) : Prop where
  env : e.env = c.env
  args : e.args = c.args
  pend : e.pend = c.pend
  called : e.called = c.called
  d : ∀ x, x ≠ f → e.d x = c.d x
def OS (f : Int) : Option Ck → Option Ck → Prop
  | none, none => True
  | some c, some e => Sim f c e
  | _, _ => False
theorem os_ite {f : Int} {p q : Prop} [Decidable p] [Decidable q] {a b a' b' : Option Ck} (hp : p ↔ q) (h1 : OS f a a') (h2 : OS f b b') : OS f (if p then a else b) (if q then a' else b') := by
  by_cases h : p
  · rw [if_pos h, if_pos (hp.1 h)]; exact h1
  · rw [if_neg h, if_neg (fun k => h (hp.2 k))]; exact h2
theorem Sim.ex {f : Int} {c e : Ck} (h : Sim f c e) (r : Int) : exP e r = exP c r := by unfold exP; rw [h.env]
theorem Sim.wr {f : Int} {c e : Ck} (h : Sim f c e) (l : List Int) : OS f (wrP c l) (wrP e l) := by
  unfold wrP
  refine os_ite ?_ ⟨h.env, h.args, h.pend, h.called, fun x hx => ?_⟩ trivial
  · rw [show exP e = exP c from funext h.ex]
  · show (e.d x || _) = (c.d x || _)
    rw [h.d x hx]
theorem Sim.en {f : Int} {c e : Ck} (h : Sim f c e) : Sim f (endP c) (endP e) := by
  by_cases k : c.args = 0 ∧ c.pend ≠ 0
  · rw [end_turn k, end_turn (by rw [h.args, h.pend]; exact k)]
    exact ⟨h.env, h.args, rfl, h.called, fun x hx => by show (e.d x || x == e.pend) = (c.d x || x == c.pend); rw [h.d x hx, h.pend]⟩
  · rw [end_keep k, end_keep (by rw [h.args, h.pend]; exact k)]
    exact h
theorem os_map {f : Int} {a b : Option Ck} (h : OS f a b) : OS f (a.map endP) (b.map endP) := by
  cases a <;> cases b <;> simp only [OS] at h
  · trivial
  · exact h.en
theorem Sim.all {f : Int} {c e : Ck} (h : Sim f c e) {l : List Int} (hl : f ∉ l) : l.all e.d = l.all c.d := by
  induction l with
  | nil => rfl
  | cons x l ih =>
    rw [List.all_cons, List.all_cons, ih (fun k => hl (List.mem_cons_of_mem _ k)), h.d x (fun k => hl (by rw [k]; exact List.mem_cons_self))]
theorem Sim.step {f : Int} {c e : Ck} (h : Sim f c e) {x : In} (hr : f ∉ rdOf x) (fi la : Bool) : OS f (stepP c x fi la) (stepP e x fi la) := by
  unfold stepP
  refine os_ite (by rw [h.args]) trivial (os_ite (by rw [h.all hr]) trivial (os_ite Iff.rfl ?_ (os_ite Iff.rfl ?_ (os_ite Iff.rfl ?_ (os_ite Iff.rfl ?_ (os_ite Iff.rfl ?_ (os_ite Iff.rfl ?_ (os_ite Iff.rfl ?_ (os_ite Iff.rfl ?_ (os_ite Iff.rfl ?_ ?_))))))))))
  · unfold argP
    refine os_ite (by rw [h.args]) trivial (os_map ?_)
    exact Sim.wr (c := { c with args := c.args - argN x }) (e := { e with args := e.args - argN x }) ⟨h.env, by show e.args - _ = c.args - _; rw [h.args], h.pend, h.called, h.d⟩ _
  · exact ⟨h.env, rfl, h.pend, h.called, h.d⟩
  · exact os_ite (by rw [h.ex]) ⟨h.env, rfl, rfl, h.called, h.d⟩ trivial
  · exact os_ite Iff.rfl ⟨rfl, h.args, h.pend, h.called, h.d⟩ trivial
  · exact os_ite (by rw [h.env]) trivial ⟨rfl, h.args, h.pend, h.called, fun y hy => by show (e.d y && _) = (c.d y && _); rw [h.d y hy]⟩
  · exact os_ite (by rw [h.env]) trivial ⟨rfl, h.args, h.pend, h.called, fun y hy => by show (e.d y && _) = (c.d y && _); rw [h.d y hy]⟩
  · exact os_ite (by rw [h.env]) ⟨h.env, h.args, h.pend, rfl, fun y hy => by show (e.d y && _) = (c.d y && _); rw [h.d y hy]⟩ trivial
  · exact os_ite (by rw [h.env]) h trivial
  · exact os_ite (by rw [h.called]) trivial (h.wr _)
  · exact h.wr _
theorem step_first (c : Ck) {x : In} (fi fj la : Bool) (h : x.op ≠ 16) : stepP c x fi la = stepP c x fj la := by
  unfold stepP
  simp only [h, if_false]
/-- a register that is not defined and does not wait to be -/
def Free (f : Int) (c : Ck) : Prop := c.d f = false ∧ c.pend ≠ f
theorem Free.wr {f : Int} {c e : Ck} {l : List Int} (h : Free f c) (hl : f ∉ l) (hw : wrP c l = some e) : Free f e := by
  unfold wrP at hw
  split at hw
  · injection hw with hw
    subst hw
    refine ⟨?_, h.2⟩
    show (c.d f || l.contains f) = false
    rw [h.1, Bool.false_or]
    simpa using hl
  · cases hw
theorem Free.en {f : Int} {c : Ck} (h : Free f c) (hf : f ≠ 0) : Free f (endP c) := by
  by_cases k : c.args = 0 ∧ c.pend ≠ 0
  · rw [end_turn k]
    refine ⟨?_, hf.symm⟩
    show (c.d f || f == c.pend) = false
    rw [h.1, Bool.false_or, beq_eq_false_iff_ne]
    exact h.2.symm
  · rw [end_keep k]; exact h
theorem Free.step {f : Int} {c e : Ck} {x : In} {fi la : Bool} (h : Free f c) (hx : fo x = true) (hf : f ≠ 0) (hu : usesI x f = false) (hs : stepP c x fi la = some e) : Free f e := by
  have hw := wr_free hx hu
  have hr := (uses_not hu).1
  unfold stepP at hs
  rcases ite_some hs with ⟨_, hs⟩ | ⟨_, hs⟩
  · cases hs
  rcases ite_some hs with ⟨_, hs⟩ | ⟨_, hs⟩
  · cases hs
  rcases ite_some hs with ⟨_, hs⟩ | ⟨_, hs⟩
  · unfold argP at hs
    rcases ite_some hs with ⟨_, hs⟩ | ⟨_, hs⟩
    · cases hs
    · cases hq : wrP { c with args := c.args - argN x } (wrOf x) with
      | none => rw [hq] at hs; cases hs
      | some q =>
        rw [hq] at hs
        injection hs with hs
        subst hs
        exact (Free.wr (c := { c with args := c.args - argN x }) h hw hq).en hf
  rcases ite_some hs with ⟨_, hs⟩ | ⟨_, hs⟩
  · injection hs with hs; subst hs; exact h
  rcases ite_some hs with ⟨_, hs⟩ | ⟨_, hs⟩
  · rcases ite_some hs with ⟨_, hs⟩ | ⟨_, hs⟩
    · injection hs with hs; subst hs; exact ⟨h.1, hr⟩
    · cases hs
  rcases ite_some hs with ⟨_, hs⟩ | ⟨_, hs⟩
  · rcases ite_some hs with ⟨_, hs⟩ | ⟨_, hs⟩
    · injection hs with hs; subst hs; exact h
    · cases hs
  rcases ite_some hs with ⟨_, hs⟩ | ⟨_, hs⟩
  · rcases ite_some hs with ⟨_, hs⟩ | ⟨_, hs⟩
    · cases hs
    · injection hs with hs; subst hs; exact ⟨by show (c.d f && _) = false; rw [h.1]; rfl, h.2⟩
  rcases ite_some hs with ⟨_, hs⟩ | ⟨_, hs⟩
  · rcases ite_some hs with ⟨_, hs⟩ | ⟨_, hs⟩
    · cases hs
    · injection hs with hs; subst hs; exact ⟨by show (c.d f && _) = false; rw [h.1]; rfl, h.2⟩
  rcases ite_some hs with ⟨_, hs⟩ | ⟨_, hs⟩
  · rcases ite_some hs with ⟨_, hs⟩ | ⟨_, hs⟩
    · injection hs with hs; subst hs; exact ⟨by show (c.d f && _) = false; rw [h.1]; rfl, h.2⟩
    · cases hs
  rcases ite_some hs with ⟨_, hs⟩ | ⟨_, hs⟩
  · rcases ite_some hs with ⟨_, hs⟩ | ⟨_, hs⟩
    · injection hs with hs; subst hs; exact h
    · cases hs
  rcases ite_some hs with ⟨_, hs⟩ | ⟨_, hs⟩
  · rcases ite_some hs with ⟨_, hs⟩ | ⟨_, hs⟩
    · cases hs
    · exact h.wr (fun k => hr (List.mem_singleton.1 k).symm) hs
  · exact h.wr hw hs
theorem upto_free {ar : Int} {l : List In} {f : Int} (hf : f ≠ 0) (ha : ¬ f ≤ ar) (hl : ∀ x ∈ l, usesI x f = false) : ∀ (j : Nat) {c : Ck}, upto ar l j = some c → Free f c
  | 0, c, h => by
    injection h with h
    subst h
    exact ⟨by simp [begP]; omega, hf.symm⟩
  | j + 1, c, h => by
    rw [upto_succ] at h
    cases h1 : upto ar l j with
    | none => rw [h1] at h; cases h
    | some d =>
      cases h2 : l[j]? with
      | none => rw [h1, h2] at h; cases h
      | some x =>
        rw [h1, h2] at h
        simp only [Option.bind_some] at h
        by_cases hx : fo x = true
        · rw [if_pos hx] at h
          exact (upto_free hf ha hl j h1).step hx hf (hl x (List.mem_of_getElem? h2)) h
        · rw [if_neg hx] at h; cases h
/-- behind the inserted mark the check goes on as before -/
theorem upto_sim {ar : Int} {l : List In} {k : Nat} {i : In} {f : Int} (hk : k < l.length) (hl : ∀ x ∈ l, usesI x f = false) (h0 : k = 0 → ∀ x, l[0]? = some x → x.op ≠ 16)
    {c e : Ck} (hc : upto ar l k = some c) (he : upto ar (insL l k i) (k + 1) = some e) (hs : Sim f c e) : ∀ (j : Nat), k + j ≤ l.length → OS f (upto ar l (k + j)) (upto ar (insL l k i) (k + 1 + j))
  | 0, _ => by rw [Nat.add_zero, Nat.add_zero, hc, he]; exact hs
  | j + 1, hj => by
    have ih := upto_sim hk hl h0 hc he hs j (by omega)
    rw [show k + (j + 1) = (k + j) + 1 by omega, show k + 1 + (j + 1) = (k + j + 1) + 1 by omega, upto_succ, upto_succ, insL_gt i (by omega) hk]
    rw [show k + 1 + j = k + j + 1 by omega] at ih
    have hlt : k + j < l.length := by omega
    rw [List.getElem?_eq_getElem hlt]
    cases h1 : upto ar l (k + j) with
    | none =>
      cases h2 : upto ar (insL l k i) (k + j + 1) with
      | none => trivial
      | some d' => rw [h1, h2] at ih; exact ih.elim
    | some d =>
      cases h2 : upto ar (insL l k i) (k + j + 1) with
      | none => rw [h1, h2] at ih; exact ih.elim
      | some d' =>
        rw [h1, h2] at ih
        simp only [Option.bind_some]
        by_cases hx : fo l[k + j] = true
        · rw [if_pos hx, if_pos hx, insL_len]
          have hu := hl _ (List.getElem_mem hlt)
          have h3 := Sim.step ih (rd_free hx hu) (k + j == 0) (k + j + 1 == l.length)
          rw [show (k + j + 1 + 1 == l.length + 1) = (k + j + 1 == l.length) by rw [Bool.eq_iff_iff, beq_iff_eq, beq_iff_eq]; omega]
          by_cases hz : k + j = 0
          · rw [step_first d' (k + j + 1 == 0) (k + j == 0) _ (h0 (by omega) _ (by rw [← hz]; exact List.getElem?_eq_getElem hlt))]
            exact h3
          · rw [show (k + j + 1 == 0) = (k + j == 0) by rw [beq_false_of_ne (by omega), beq_false_of_ne hz]]
            exact h3
        · rw [if_neg hx, if_neg hx]; trivial
theorem not_arg {b : Bk} (h : vaP b = true) {k : Nat} {x : In} (hx : b.code[k]? = some x) (ha : isArg x.op = false) : ∃ c, upto b.par b.code k = some c ∧ ¬ 0 < c.args := by
  obtain ⟨_, _, _, hu⟩ := va_parts h
  obtain ⟨c, c', y, hy, hc, _, hs, _⟩ := upto_at (List.getElem?_eq_some_iff.1 hx).1 hu
  rw [hx] at hy
  injection hy with hy
  subst hy
  have h2 := (step_end hs).2
  rw [ha] at h2
  exact ⟨c, hc, fun h => by simp [h] at h2⟩
theorem uses_parts {b : Bk} {f : Int} (h : usesP b f = false) : (∀ x ∈ b.code, usesI x f = false) ∧ ¬ f ≤ b.par := by
  unfold usesP at h
  rw [Bool.or_eq_false_iff, decide_eq_false_iff_not] at h
  exact ⟨fun x hx => by simpa using (List.any_eq_false.1 h.1) x hx, h.2⟩
theorem fo_mark {f : Int} (h : 1 ≤ f ∧ f ≤ 4096) : fo ⟨23, f, 0, 0, ⟨#[]⟩, 0⟩ = true := by
  rw [fo23]
  simp [rOk, sameI]
  omega
/-- a mark of a free register -/
theorem va_ins_mark {b : Bk} (h : vaP b = true) (hn : b.code.length < 131072) {k : Nat} {x : In} (hx : b.code[k]? = some x) (ha : isArg x.op = false) {f : Int} (hf : 1 ≤ f ∧ f ≤ 4096) (hu : usesP b f = false) (h0 : k = 0 → x.op ≠ 16) :
    vaP { b with code := insL b.code k ⟨23, f, 0, 0, ⟨#[]⟩, 0⟩ } = true := by
  obtain ⟨c, hc, hz⟩ := not_arg h hx ha
  obtain ⟨p1, p2, p3, p4⟩ := va_parts h
  obtain ⟨q1, q2⟩ := uses_parts hu
  have hk := (List.getElem?_eq_some_iff.1 hx).1
  have hm := fo_mark hf
  have hs : stepP c ⟨23, f, 0, 0, ⟨#[]⟩, 0⟩ (k == 0) false = some { c with d := fun y => c.d y || [f].contains y } := by
    have e1 : rdOf ⟨23, f, 0, 0, ⟨#[]⟩, 0⟩ = [] := by rw [rd23, hm]; rfl
    have e2 : wrOf ⟨23, f, 0, 0, ⟨#[]⟩, 0⟩ = [f] := by rw [wr23, hm]; rfl
    unfold stepP
    rw [e1, e2]
    rw [if_neg (by simp [isArg, isEnd, hz]), if_neg (by simp), if_neg (by simp [isArg])]
    simp only [show ¬ (23 : Int) = 5 by decide, show ¬ (23 : Int) = 15 by decide, show ¬ (23 : Int) = 16 by decide, show ¬ (23 : Int) = 17 by decide, show ¬ (23 : Int) = 18 by decide, show ¬ (23 : Int) = 19 by decide, show ¬ ((23 : Int) = 20 ∨ (23 : Int) = 21) by decide, show ¬ (23 : Int) = 22 by decide, if_false]
    unfold wrP
    rw [if_pos]
    simp [exP]
    omega
  have he : upto b.par (insL b.code k ⟨23, f, 0, 0, ⟨#[]⟩, 0⟩) (k + 1) = some { c with d := fun y => c.d y || [f].contains y } := by
    rw [upto_succ, upto_ins _ hk, hc, insL_at _ hk]
    simp only [Option.bind_some]
    rw [if_pos hm, insL_len, show (k + 1 == b.code.length + 1) = false from beq_false_of_ne (by omega)]
    exact hs
  have hS : Sim f c { c with d := fun y => c.d y || [f].contains y } := ⟨rfl, rfl, rfl, rfl, fun y hy => by
    show (c.d y || [f].contains y) = c.d y
    rw [show [f].contains y = false by simp [hy], Bool.or_false]⟩
  have hf' := upto_sim hk q1 (fun e y hy => by subst e; rw [hx] at hy; injection hy with hy; subst hy; exact h0 rfl) hc he hS (b.code.length - k) (by omega)
  rw [show k + (b.code.length - k) = b.code.length by omega, show k + 1 + (b.code.length - k) = b.code.length + 1 by omega] at hf'
  unfold vaP
  have g1 : hdP { b with code := insL b.code k ⟨23, f, 0, 0, ⟨#[]⟩, 0⟩ } = true := p1
  rw [g1]
  show ((true && (decide (1 ≤ (insL b.code k _).length) && decide ((insL b.code k _).length ≤ 131072))) && (upto b.par (insL b.code k _) (insL b.code k _).length).isSome) = true
  rw [insL_len]
  cases h5 : upto b.par b.code b.code.length with
  | none => rw [h5] at p4; cases p4
  | some d =>
    cases h6 : upto b.par (insL b.code k ⟨23, f, 0, 0, ⟨#[]⟩, 0⟩) (b.code.length + 1) with
    | none => rw [h5, h6] at hf'; exact hf'.elim
    | some d' => simp; omega
/-- what reads a free register -/
theorem step_reads {c : Ck} {x : In} {f : Int} (h : Free f c) (hm : f ∈ rdOf x) (fi la : Bool) : stepP c x fi la = none := by
  have hr : (rdOf x).all c.d = false := by
    rw [List.all_eq_false]
    exact ⟨f, hm, by rw [h.1]; decide⟩
  unfold stepP
  by_cases k : (isArg x.op != decide (0 < c.args)) = true ∨ (isEnd x.op != la) = true
  · rw [if_pos k]
  · rw [if_neg k, if_pos hr]
theorem step_args {c : Ck} {x : In} (h : ¬ 0 < c.args) (ha : isArg x.op = true) (fi la : Bool) : stepP c x fi la = none := by
  unfold stepP
  rw [if_pos]
  left
  rw [ha, decide_eq_false h]
  rfl
/-- the instructions that the law inserts, but for the mark -/
theorem va_ins_reads {b : Bk} (h : vaP b = true) {k : Nat} {x : In} (hx : b.code[k]? = some x) (ha : isArg x.op = false) {f : Int} (hf : 1 ≤ f) (hu : usesP b f = false) {i : In} (hi : f ∈ rdOf i ∨ isArg i.op = true) :
    vaP { b with code := insL b.code k i } = false := by
  obtain ⟨c, hc, hz⟩ := not_arg h hx ha
  obtain ⟨q1, q2⟩ := uses_parts hu
  refine va_ins_no (List.getElem?_eq_some_iff.1 hx).1 hc fun fi => ?_
  rcases hi with hi | hi
  · exact step_reads (upto_free (by omega) q2 q1 k hc) hi _ _
  · exact step_args hz hi _ _
end
section
open Go.RowKit

theorem fld_r {x : In} {r2 : Int} (h0 : x.r = 0) (h1 : r2 ≠ 0) (h : fo x = true) : fo { x with r := r2 } = false := by
  obtain ⟨op, r, a, n, nm, ar⟩ := x
  simp only at *
  rcases op_cases (fo_op h) with rfl | rfl | rfl | rfl | rfl | rfl | rfl | rfl | rfl | rfl | rfl | rfl | rfl | rfl | rfl | rfl | rfl | rfl | rfl | rfl | rfl | rfl | rfl | rfl | rfl <;> simp only [fo1, fo2, fo3, fo4, fo5, fo6, fo7, fo8, fo9, fo10, fo11, fo12, fo13, fo14, fo15, fo16, fo17, fo18, fo19, fo20, fo21, fo22, fo23, fo24, fo25] at h ⊢ <;> simp only [sameI, rOk, aOk] at h ⊢ <;> simp at h ⊢ <;> first | omega | (simp_all; done) | (intros; omega)
theorem fld_a {x : In} {a2 : Int} (h0 : x.a = 0) (h1 : a2 ≠ 0) (h : fo x = true) : fo { x with a := a2 } = false := by
  obtain ⟨op, r, a, n, nm, ar⟩ := x
  simp only at *
  rcases op_cases (fo_op h) with rfl | rfl | rfl | rfl | rfl | rfl | rfl | rfl | rfl | rfl | rfl | rfl | rfl | rfl | rfl | rfl | rfl | rfl | rfl | rfl | rfl | rfl | rfl | rfl | rfl <;> simp only [fo1, fo2, fo3, fo4, fo5, fo6, fo7, fo8, fo9, fo10, fo11, fo12, fo13, fo14, fo15, fo16, fo17, fo18, fo19, fo20, fo21, fo22, fo23, fo24, fo25] at h ⊢ <;> simp only [sameI, rOk, aOk] at h ⊢ <;> simp at h ⊢ <;> first | omega | (simp_all; done) | (intros; omega)
theorem fld_n {x : In} {n2 : Int} (h0 : x.n = 0) (h1 : n2 ≠ 0) (hop : x.op ≠ 3 ∧ x.op ≠ 8 ∧ x.op ≠ 13 ∧ x.op ≠ 16 ∧ x.op ≠ 17 ∧ x.op ≠ 19 ∧ x.op ≠ 20) (h : fo x = true) : fo { x with n := n2 } = false := by
  obtain ⟨op, r, a, n, nm, ar⟩ := x
  simp only at *
  rcases op_cases (fo_op h) with rfl | rfl | rfl | rfl | rfl | rfl | rfl | rfl | rfl | rfl | rfl | rfl | rfl | rfl | rfl | rfl | rfl | rfl | rfl | rfl | rfl | rfl | rfl | rfl | rfl <;> simp only [fo1, fo2, fo3, fo4, fo5, fo6, fo7, fo8, fo9, fo10, fo11, fo12, fo13, fo14, fo15, fo16, fo17, fo18, fo19, fo20, fo21, fo22, fo23, fo24, fo25] at h ⊢ <;> simp only [sameI, rOk, aOk] at h ⊢ <;> simp at h ⊢ <;> first | omega | (simp_all; done) | (intros; omega)
theorem fld_nm {x : In} {nm2 : ByteArray} (h1 : nm2.toList ≠ []) (hop : x.op < 4 ∨ x.op = 21 ∨ x.op = 25 ∨ x.op = 18) (h : fo x = true) : fo { x with nm := nm2 } = false := by
  obtain ⟨op, r, a, n, nm, ar⟩ := x
  simp only at *
  rcases op_cases (fo_op h) with rfl | rfl | rfl | rfl | rfl | rfl | rfl | rfl | rfl | rfl | rfl | rfl | rfl | rfl | rfl | rfl | rfl | rfl | rfl | rfl | rfl | rfl | rfl | rfl | rfl <;> simp only [fo1, fo2, fo3, fo4, fo5, fo6, fo7, fo8, fo9, fo10, fo11, fo12, fo13, fo14, fo15, fo16, fo17, fo18, fo19, fo20, fo21, fo22, fo23, fo24, fo25] at h ⊢ <;> simp only [sameI, rOk, aOk] at h ⊢ <;> simp at h ⊢ <;> first | omega | (simp_all; done) | (intros; omega)
theorem fld_ar {x : In} {ar2 : Int} (h0 : x.ar = 0) (h1 : ar2 ≠ 0) (hop : x.op < 5 ∨ x.op = 21 ∨ x.op = 25 ∨ x.op = 18) (h : fo x = true) : fo { x with ar := ar2 } = false := by
  obtain ⟨op, r, a, n, nm, ar⟩ := x
  simp only at *
  rcases op_cases (fo_op h) with rfl | rfl | rfl | rfl | rfl | rfl | rfl | rfl | rfl | rfl | rfl | rfl | rfl | rfl | rfl | rfl | rfl | rfl | rfl | rfl | rfl | rfl | rfl | rfl | rfl <;> simp only [fo1, fo2, fo3, fo4, fo5, fo6, fo7, fo8, fo9, fo10, fo11, fo12, fo13, fo14, fo15, fo16, fo17, fo18, fo19, fo20, fo21, fo22, fo23, fo24, fo25] at h ⊢ <;> simp only [sameI, rOk, aOk] at h ⊢ <;> simp at h ⊢ <;> first | omega | (simp_all; done) | (intros; omega)
theorem fld_ar0 {x : In} (h : fo x = true) (hop : x.op < 5 ∨ x.op = 21 ∨ x.op = 25 ∨ x.op = 18) : x.ar = 0 := by
  obtain ⟨op, r, a, n, nm, ar⟩ := x
  simp only at *
  rcases op_cases (fo_op h) with rfl | rfl | rfl | rfl | rfl | rfl | rfl | rfl | rfl | rfl | rfl | rfl | rfl | rfl | rfl | rfl | rfl | rfl | rfl | rfl | rfl | rfl | rfl | rfl | rfl <;> simp only [fo1, fo2, fo3, fo4, fo5, fo6, fo7, fo8, fo9, fo10, fo11, fo12, fo13, fo14, fo15, fo16, fo17, fo18, fo19, fo20, fo21, fo22, fo23, fo24, fo25] at h ⊢ <;> simp only [sameI, rOk, aOk] at h ⊢ <;> simp at h ⊢ <;> first | omega | (simp_all; done)
end
end Go.Proofs.YtbipeakinmbdiaaGreatDoor
