/-
  Plain: the reference reads a line, and the head of a block, as the program does; its walk over a text.
-/
import Derived.Test.YtbipeakinmbdiaaGreatDoorXPa
namespace Go.Proofs.YtbipeakinmbdiaaGreatDoor
open Go.RowKit

/-- one field, as the reference reads it -/
def tfStep (y : In) (c : UInt8) (w : List UInt8) : In :=
  if c = 114 then { y with r := trP w } else if c = 97 then { y with a := trP w } else if c = 115 then { y with nm := S (tmP (w.drop 1)) }
  else if c = 102 ∨ c = 112 then { y with nm := S (tpP w).1, ar := (tpP w).2.1, n := (tpP w).2.2 } else { y with n := tnP w }
def tfOf (op : Int) (ws : List (List UInt8)) : In := ((flds op).zip ws).foldl (fun y q => tfStep y q.1 q.2) ⟨op, 0, 0, 0, ⟨#[]⟩, 0⟩
/-- a line of an instruction, as the reference reads it -/
def tiP (l : List UInt8) : In × Bool :=
  if opOf ((ptP l).headD []) = 0 ∨ (ptP l).length ≠ (flds (opOf ((ptP l).headD []))).length + 1 then (zeroI, false)
  else (tfOf (opOf ((ptP l).headD [])) ((ptP l).drop 1), fo (tfOf (opOf ((ptP l).headD [])) ((ptP l).drop 1)) && (lineL (tfOf (opOf ((ptP l).headD [])) ((ptP l).drop 1)) == l))
theorem tf_step {x y : In} {c : UInt8} (hc : isFld c) (h : fieldOk x c = true) (hn : inR x.n) (hy : y.n = 0) : tfStep y c (fieldL x c) = wantStep x y c := by
  rcases hc with rfl | rfl | rfl | rfl | rfl | rfl | rfl | rfl
  · have h' : rOk x.r = true := h
    simp [rOk] at h'
    show ({ y with r := trP (regL x.r) } : In) = { y with r := x.r }
    rw [tr_reg (by omega)]
  · have h' : aOk x.a = true := h
    simp [aOk] at h'
    show ({ y with a := trP (regL x.a) } : In) = { y with a := x.a }
    rw [tr_reg (by omega)]
  · show ({ y with n := tnP (numL x.n) } : In) = { y with n := x.n }
    rw [tn_num hn]
  · show ({ y with n := tnP (numL x.n) } : In) = { y with n := x.n }
    rw [tn_num hn]
  · show ({ y with n := tnP (numL x.n) } : In) = { y with n := x.n }
    rw [tn_num hn]
  · show ({ y with nm := S (tmP ((quoteL x.nm.data.toList).drop 1)) } : In) = { y with nm := x.nm }
    rw [tm_quote, S_eta]
  · have h' : (nmOk x.nm && (decide (1 ≤ x.ar) && decide (x.ar ≤ 8))) = true := h
    simp at h'
    show ({ y with nm := S (tpP (funL x.nm.data.toList x.ar)).1, ar := (tpP (funL x.nm.data.toList x.ar)).2.1, n := (tpP (funL x.nm.data.toList x.ar)).2.2 } : In) = { y with nm := x.nm, ar := x.ar }
    rw [tp_fun _ (by unfold inR; omega), S_eta]
    show ({ y with nm := x.nm, ar := x.ar, n := 0 } : In) = _
    rw [← hy]
  · have h' : pdOk x.nm x.ar x.n = true := h
    show ({ y with nm := S (tpP (predL x.nm.data.toList x.ar x.n)).1, ar := (tpP (predL x.nm.data.toList x.ar x.n)).2.1, n := (tpP (predL x.nm.data.toList x.ar x.n)).2.2 } : In) = { y with nm := x.nm, ar := x.ar, n := x.n }
    rw [tp_pred h', S_eta]
theorem tf_fields {x : In} (h : fo x = true) (hn : inR x.n) : tfOf x.op ((flds x.op).map (fieldL x)) = x := by
  obtain ⟨h1, h2⟩ := fo_same h
  conv => rhs; rw [← h1]
  unfold tfOf wantOf
  rcases flds_two (fo_op h) with e | ⟨c, e, hc⟩ | ⟨c, d, e, hcd⟩
  · rw [e]; rfl
  · rw [e] at h2 ⊢
    simp only [List.all_cons, Bool.and_eq_true] at h2
    exact tf_step hc h2.1 hn rfl
  · rw [e] at h2 ⊢
    simp only [List.all_cons, Bool.and_eq_true] at h2
    have hc : isFld c := by unfold isFld; rcases hcd with ⟨rfl, _⟩ | ⟨rfl, _⟩ <;> simp
    have hd : isFld d := by unfold isFld; rcases hcd with ⟨_, rfl | rfl⟩ | ⟨_, rfl | rfl | rfl⟩ <;> simp
    show tfStep (tfStep _ c (fieldL x c)) d (fieldL x d) = wantStep x (wantStep x _ c) d
    rw [tf_step hc h2.1 hn rfl]
    exact tf_step hd h2.2.1 hn (by rcases hcd with ⟨rfl, _⟩ | ⟨rfl, _⟩ <;> rfl)
theorem tf_step_in {y : In} (c : UInt8) (w : List UInt8) (h : inR y.n) : inR (tfStep y c w).n := by
  unfold tfStep
  by_cases c1 : c = 114
  · rw [if_pos c1]; exact h
  rw [if_neg c1]
  by_cases c2 : c = 97
  · rw [if_pos c2]; exact h
  rw [if_neg c2]
  by_cases c3 : c = 115
  · rw [if_pos c3]; exact h
  rw [if_neg c3]
  by_cases c4 : c = 102 ∨ c = 112
  · rw [if_pos c4]
    show inR (tpP w).2.2
    unfold tpP
    split
    · exact tn_in _
    · show inR 0
      unfold inR; omega
  · rw [if_neg c4]; exact tn_in _
theorem tf_in (op : Int) (ws : List (List UInt8)) : inR (tfOf op ws).n := by
  have key : ∀ (l : List (UInt8 × List UInt8)) (y : In), inR y.n → inR (l.foldl (fun y q => tfStep y q.1 q.2) y).n := by
    intro l
    induction l with
    | nil => intro y h; exact h
    | cons q t ih =>
      intro y h
      exact ih _ (tf_step_in _ _ h)
  exact key _ _ (by show inR 0; unfold inR; omega)
theorem pt_lineL (x : In) : ptP (lineL x) = nameL x.op :: (flds x.op).map (fieldL x) := by
  unfold lineL
  have h := pt_line (w := nameL x.op) (ws := (flds x.op).map (fieldL x)) (by
    intro w hw
    rw [List.mem_cons] at hw
    rcases hw with rfl | hw
    · exact word_name _
    · rw [List.mem_map] at hw
      obtain ⟨c, _, rfl⟩ := hw
      exact word_field _ _)
  rw [List.flatMap_map] at h
  exact h
/-- the reference reads a line as the program does -/
theorem ti_line (l : List UInt8) : lineP l = if (tiP l).2 = true then some (tiP l).1 else none := by
  cases hl : lineP l with
  | some x =>
    obtain ⟨h1, rfl, h3⟩ := lineP_some hl
    have ho := fo_op h1
    have hs := name_op ho
    have hne : x.op ≠ 0 := by unfold okOp at ho; simp at ho; omega
    have e : tiP (lineL x) = (x, true) := by
      unfold tiP
      simp only [pt_lineL, List.headD_cons, hs.1, List.length_cons, List.length_map, List.drop_succ_cons, List.drop_zero, tf_fields h1 h3, h1, Bool.true_and, beq_self_eq_true]
      rw [if_neg]
      rintro (h | h)
      · exact hne h
      · exact h rfl
    rw [e, if_pos rfl]
  | none =>
    rw [if_neg]
    intro h
    unfold tiP at h
    split at h
    · cases h
    · simp only [Bool.and_eq_true, beq_iff_eq] at h
      have := lineP_line h.1 (tf_in _ _)
      rw [h.2, hl] at this
      cases this
def blockN : List UInt8 := [98, 108, 111, 99, 107]
def thB (p : List (List UInt8)) : Bk :=
  ⟨tnP (p.getD 1 []), S (tpP (p.getD 2 [])).1, (tpP (p.getD 2 [])).2.1, (tpP (p.getD 2 [])).2.2, (tkP (p.getD 3 [])).1, (tkP (p.getD 3 [])).2.1, S (tkP (p.getD 3 [])).2.2.1, (tkP (p.getD 3 [])).2.2.2, []⟩
theorem pt_head (b : Bk) : ptP (headL b) = [blockN, numL b.id, predL b.pn.data.toList b.par b.paux, keyL b.kk b.kn b.knm.data.toList b.kar] := by
  have h := pt_line (w := blockN) (ws := [numL b.id, predL b.pn.data.toList b.par b.paux, keyL b.kk b.kn b.knm.data.toList b.kar]) (by
    intro w hw
    simp only [List.mem_cons, List.not_mem_nil, or_false] at hw
    rcases hw with rfl | rfl | rfl | rfl
    · exact word_all (by decide)
    · exact word_num _
    · exact word_pred _ _ _
    · exact word_key _ _ _ _)
  rw [← h]
  unfold headL blockW blockN
  simp
theorem tk_in (l : List UInt8) : inR (tkP l).2.1 := by
  unfold tkP
  repeat' split
  · show inR 0; unfold inR; omega
  · show inR 0; unfold inR; omega
  · show inR 0; unfold inR; omega
  · exact tn_in _
/-- the reference reads the head of a block as the program does -/
theorem th_head (l : List UInt8) : headP l = if ((ptP l).length = 4 ∧ (ptP l).headD [] = blockN) ∧ hdP (thB (ptP l)) = true ∧ headL (thB (ptP l)) = l then some (thB (ptP l)) else none := by
  cases hl : headP l with
  | some b =>
    obtain ⟨h1, rfl, h3, h4⟩ := headP_some hl
    have h' := h1
    unfold hdP at h'
    simp only [Bool.and_eq_true, decide_eq_true_eq] at h'
    have e : thB (ptP (headL b)) = b := by
      rw [pt_head]
      unfold thB
      show (⟨tnP (numL b.id), S (tpP (predL b.pn.data.toList b.par b.paux)).1, (tpP (predL b.pn.data.toList b.par b.paux)).2.1, (tpP (predL b.pn.data.toList b.par b.paux)).2.2, (tkP (keyL b.kk b.kn b.knm.data.toList b.kar)).1, (tkP (keyL b.kk b.kn b.knm.data.toList b.kar)).2.1, S (tkP (keyL b.kk b.kn b.knm.data.toList b.kar)).2.2.1, (tkP (keyL b.kk b.kn b.knm.data.toList b.kar)).2.2.2, []⟩ : Bk) = b
      rw [tn_num (by unfold inR; omega), tp_pred h'.2.1, tk_key h'.2.2 h4]
      obtain ⟨id, pn, par, paux, kk, kn, knm, kar, code⟩ := b
      subst h3
      simp only [S_eta]
    rw [e, if_pos]
    rw [pt_head]
    exact ⟨⟨rfl, rfl⟩, h1, rfl⟩
  | none =>
    rw [if_neg]
    rintro ⟨_, h1, h2⟩
    have := headP_head h1 (by exact tk_in _) rfl
    rw [h2, hl] at this
    cases this

/-! the walk over a text -/
theorem goP_cons (s : List UInt8) (r : List (List UInt8)) (k : Nat) (b : Bk) : goP (s :: r) k b = if k = 0 then match headP s with | some b => goP r (k + 1) b | none => .error (k + 1)
    else match lineP s with | some x => goP r (k + 1) { b with code := b.code ++ [x] } | none => .error (k + 1) := rfl
theorem goP_app : ∀ (ls r : List (List UInt8)) (k : Nat) (b : Bk), goP (ls ++ r) k b = match goP ls k b with | .error e => .error e | .ok b2 => goP r (k + ls.length) b2
  | [], r, k, b => rfl
  | s :: ls, r, k, b => by
    rw [List.cons_append, goP_cons, goP_cons, List.length_cons]
    split
    · cases headP s with
      | none => rfl
      | some b2 =>
        have := goP_app ls r (k + 1) b2
        rw [show k + 1 + ls.length = k + (ls.length + 1) by omega] at this
        exact this
    · cases lineP s with
      | none => rfl
      | some x =>
        have := goP_app ls r (k + 1) { b with code := b.code ++ [x] }
        rw [show k + 1 + ls.length = k + (ls.length + 1) by omega] at this
        exact this
theorem split_app : ∀ (ls : List (List UInt8)) (r : List UInt8), (∀ l ∈ ls, (10 : UInt8) ∉ l) → splitL (ls.flatMap (· ++ [10]) ++ r) = ls ++ splitL r
  | [], _, _ => rfl
  | l :: ls, r, h => by
    rw [List.flatMap_cons, List.append_assoc, List.append_assoc]
    show splitL (l ++ 10 :: (ls.flatMap (· ++ [10]) ++ r)) = _
    rw [splitL_app (h l (by simp)), split_app ls r fun x hx => h x (by simp [hx])]
    rfl
/-- the walk at a place of a text: the lines that are done, the line that is under way, the block so far -/
def LnAt (t : List UInt8) (i : Nat) (ls : List (List UInt8)) (cur : List UInt8) (b : Bk) : Prop :=
  (t.take i = ls.flatMap (· ++ [10]) ++ cur ∧ i ≤ t.length) ∧ ((10 : UInt8) ∉ cur ∧ ∀ l ∈ ls, (10 : UInt8) ∉ l) ∧ goP ls 0 zBk = .ok b
theorem LnAt.start (t : List UInt8) : LnAt t 0 [] [] zBk := ⟨⟨rfl, Nat.zero_le _⟩, ⟨by simp, by simp⟩, rfl⟩
theorem take_one {t : List UInt8} {i : Nat} {c : UInt8} (h : t[i]? = some c) : t.take (i + 1) = t.take i ++ [c] ∧ i + 1 ≤ t.length := by
  rw [List.take_add_one, h]
  exact ⟨rfl, (List.getElem?_eq_some_iff.1 h).1⟩
theorem LnAt.byte {t : List UInt8} {i : Nat} {ls : List (List UInt8)} {cur : List UInt8} {b : Bk} {c : UInt8} (h : LnAt t i ls cur b) (hc : t[i]? = some c) (hn : c ≠ 10) : LnAt t (i + 1) ls (cur ++ [c]) b := by
  obtain ⟨⟨h1, _⟩, ⟨h2, h3⟩, h4⟩ := h
  refine ⟨⟨?_, (take_one hc).2⟩, ⟨?_, h3⟩, h4⟩
  · rw [(take_one hc).1, h1, List.append_assoc]
  · rw [List.mem_append, not_or]
    exact ⟨h2, by simpa using fun e => hn e.symm⟩
theorem LnAt.line {t : List UInt8} {i : Nat} {ls : List (List UInt8)} {cur : List UInt8} {b b2 : Bk} (h : LnAt t i ls cur b) (hc : t[i]? = some 10) (hg : goP [cur] ls.length b = .ok b2) : LnAt t (i + 1) (ls ++ [cur]) [] b2 := by
  obtain ⟨⟨h1, _⟩, ⟨h2, h3⟩, h4⟩ := h
  refine ⟨⟨?_, (take_one hc).2⟩, ⟨by simp, ?_⟩, ?_⟩
  · rw [(take_one hc).1, h1]; simp
  · intro l hl
    rw [List.mem_append, List.mem_singleton] at hl
    rcases hl with hl | rfl
    · exact h3 l hl
    · exact h2
  · rw [goP_app, h4]
    show goP [cur] (0 + ls.length) b = _
    rw [Nat.zero_add, hg]
theorem split_ne (l : List UInt8) : splitL l ≠ [] := by
  obtain ⟨p, x, e, _⟩ := splitL_back l.length l (Nat.le_refl _)
  rw [e]
  simp
theorem drop_last {α} (a : List α) (s : α) (r : List α) (h : r ≠ []) : (a ++ s :: r).dropLast = a ++ s :: r.dropLast := by
  rw [List.dropLast_append_of_ne_nil (by simp)]
  cases r with
  | nil => exact absurd rfl h
  | cons x y => rfl
theorem LnAt.fail {t : List UInt8} {i : Nat} {ls : List (List UInt8)} {cur : List UInt8} {b : Bk} {k : Nat} (h : LnAt t i ls cur b) (hs : t.length ≤ 16384) (hc : t[i]? = some 10) (hg : goP [cur] ls.length b = .error k) : parseV t = (zBk, (k : Int), 3) := by
  obtain ⟨⟨h1, _⟩, ⟨h2, h3⟩, h4⟩ := h
  have e : t = ls.flatMap (· ++ [10]) ++ (cur ++ 10 :: t.drop (i + 1)) := by
    conv => lhs; rw [← List.take_append_drop (i + 1) t, (take_one hc).1, h1]
    simp
  have es : splitL t = ls ++ cur :: splitL (t.drop (i + 1)) := by
    conv => lhs; rw [e]
    rw [split_app _ _ h3, splitL_app h2]
  unfold parseV
  rw [if_neg (by omega), es, drop_last _ _ _ (split_ne _), goP_app, h4]
  show (match goP (cur :: (splitL (t.drop (i + 1))).dropLast) (0 + ls.length) b with | .error k => _ | .ok b => _) = _
  have e2 : goP ([cur] ++ (splitL (t.drop (i + 1))).dropLast) (0 + ls.length) b = .error k := by rw [goP_app, Nat.zero_add, hg]
  rw [show cur :: (splitL (t.drop (i + 1))).dropLast = [cur] ++ (splitL (t.drop (i + 1))).dropLast from rfl, e2]
theorem LnAt.done {t : List UInt8} {ls : List (List UInt8)} {cur : List UInt8} {b : Bk} (h : LnAt t t.length ls cur b) (hs : t.length ≤ 16384) :
    parseV t = if cur ≠ [] ∨ ls.length = 0 then (zBk, (ls.length : Int) + 1, 3) else if vaP b then (b, 0, 0) else (zBk, 0, 1) := by
  obtain ⟨⟨h1, _⟩, ⟨h2, h3⟩, h4⟩ := h
  rw [List.take_of_length_le (Nat.le_refl _)] at h1
  have es : splitL t = ls ++ [cur] := by rw [h1, split_app _ _ h3, splitL_no h2]
  unfold parseV
  rw [if_neg (by omega), es, List.dropLast_concat, h4]
  show (if (ls ++ [cur]).length = 1 ∨ (ls ++ [cur]).getLast? ≠ some [] then _ else _) = _
  rw [List.getLast?_concat, List.length_append]
  show (if ls.length + 1 = 1 ∨ some cur ≠ some [] then (zBk, ((ls.length + 1 : Nat) : Int), (3 : Int)) else _) = _
  by_cases hh : cur ≠ [] ∨ ls.length = 0
  · rw [if_pos hh, if_pos]
    · rfl
    · rcases hh with hh | hh
      · exact .inr (by simpa using hh)
      · exact .inl (by omega)
  · rw [if_neg hh, if_neg]
    rintro (h | h)
    · exact hh (.inr (by omega))
    · exact hh (.inl (by simpa using h))
end Go.Proofs.YtbipeakinmbdiaaGreatDoor
