/-
  Plain: what the reference's reader undoes: numbers, names, predicates, keys, lines.
-/
import Derived.Test.YtbipeakinmbdiaaGreatDoorXj
import Derived.Test.YtbipeakinmbdiaaGreatDoorKt
namespace Go.Proofs.YtbipeakinmbdiaaGreatDoor
open Go.RowKit

theorem w64_id {x : Int} (h : inR x) : wrap64 x = x := by unfold inR at h; unfold wrap64; omega
theorem w64_mod (x : Int) : ∃ k : Int, wrap64 x = x + 18446744073709551616 * k := by
  unfold wrap64
  refine ⟨-((x + 9223372036854775808) / 18446744073709551616), ?_⟩
  omega
theorem w64_in (x : Int) : inR (wrap64 x) := by
  unfold inR wrap64
  omega
theorem w64_eq {x y : Int} (k : Int) (h : x = y + 18446744073709551616 * k) : wrap64 x = wrap64 y := by
  subst h
  unfold wrap64
  omega
theorem tn_dig (u : Nat) : tnAll (Lib.decDigits u) = wrap64 (-(u : Int)) := by
  induction u using Nat.strongRecOn with
  | _ u ih =>
    by_cases h : u < 10
    · rw [dec_last h]
      have hd := dig_one h
      have hg : digB (UInt8.ofNat (48 + u)) = true := by unfold digB; rw [hd]; simp; omega
      show tnStep 0 _ = _
      unfold tnStep
      rw [if_pos hg, hd]
      exact congrArg wrap64 (by rw [show wrap64 (10 * 0) = 0 by unfold wrap64; omega]; omega)
    · rw [dec_more h]
      have hm : u % 10 < 10 := Nat.mod_lt _ (by omega)
      have hd := dig_one hm
      have hg : digB (UInt8.ofNat (48 + u % 10)) = true := by unfold digB; rw [hd]; simp; omega
      have e := ih (u / 10) (by omega)
      unfold tnAll at e ⊢
      rw [List.foldl_append, e]
      show tnStep _ _ = _
      unfold tnStep
      rw [if_pos hg, hd]
      obtain ⟨k, hk⟩ := w64_mod (-((u / 10 : Nat) : Int))
      obtain ⟨m, hm2⟩ := w64_mod (10 * wrap64 (-((u / 10 : Nat) : Int)))
      rw [hm2, hk]
      refine w64_eq (10 * k + m) ?_
      omega
theorem tn_num {n : Int} (h : inR n) : tnP (numL n) = n := by
  by_cases hn : n < 0
  · rw [num_neg hn]
    unfold tnP
    rw [if_pos (show (45 :: Lib.decDigits n.natAbs).head? = some 45 from rfl)]
    have e : tnAll (45 :: Lib.decDigits n.natAbs) = tnAll (Lib.decDigits n.natAbs) := rfl
    rw [e, tn_dig, show -((n.natAbs : Nat) : Int) = n by omega, w64_id h]
  · rw [num_pos hn]
    unfold tnP
    obtain ⟨c, t, e, hc⟩ := dig_cases n.natAbs
    rw [if_neg (by rw [e]; simp; exact dig_no45 hc), tn_dig]
    obtain ⟨k, hk⟩ := w64_mod (-((n.natAbs : Nat) : Int))
    rw [hk]
    rw [w64_eq (y := n) (-k) (by omega), w64_id h]
theorem tn_in (l : List UInt8) : inR (tnP l) := by
  unfold tnP
  split
  · unfold tnAll
    have key : ∀ (l : List UInt8) (n : Int), inR n → inR (l.foldl tnStep n) := by
      intro l
      induction l with
      | nil => intro n h; exact h
      | cons c t ih =>
        intro n h
        refine ih _ ?_
        unfold tnStep
        split
        · exact w64_in _
        · exact h
    exact key l 0 (by unfold inR; omega)
  · exact w64_in _
theorem hx_D {n : Nat} (h : n < 16) : hxP (hexD n) = UInt8.ofNat n := by
  have : ∀ n : Fin 16, hxP (hexD n.val) = UInt8.ofNat n.val := by decide
  exact this ⟨n, h⟩
theorem hx_esc (c : UInt8) : 16 * hxP (hexD (c.toNat / 16)) + hxP (hexD (c.toNat % 16)) = c := by
  have hc := c.toNat_lt
  rw [hx_D (by omega), hx_D (by omega)]
  apply UInt8.toNat_inj.1
  rw [UInt8.toNat_add, UInt8.toNat_mul]
  simp
  omega
theorem tm_list (s : List UInt8) : tmP (s.flatMap escB ++ [34]) = s := by
  induction s with
  | nil => rfl
  | cons c s ih =>
    rw [List.flatMap_cons, List.append_assoc]
    by_cases hp : plainB c = true
    · have hne : c ≠ 92 := by rintro rfl; cases hp
      have e : escB c = [c] := by unfold escB; rw [if_pos hp]
      rw [e]
      have h0 : ([c] ++ (s.flatMap escB ++ [34]))[0]? = some c := rfl
      have := tm_one (l := [c] ++ (s.flatMap escB ++ [34])) (j := 0) (a := c) h0 (by simp) (fun h => hne h.1)
      rw [List.drop_zero] at this
      rw [this]
      exact congrArg _ ih
    · have e : escB c = [92, 120, hexD (c.toNat / 16), hexD (c.toNat % 16)] := by unfold escB; rw [if_neg hp]
      rw [e]
      show (if (92 : UInt8) = 92 then _ else _) = _
      rw [if_pos rfl, hx_esc]
      exact congrArg _ ih
theorem tm_quote (s : List UInt8) : tmP ((quoteL s).drop 1) = s := tm_list s
theorem num_no (c : UInt8) (h : c ≠ 45 ∧ digB c = false) (n : Int) : c ∉ numL n := by
  intro hm
  rcases num_all n c hm with e | e
  · exact h.1 e
  · rw [h.2] at e; cases e
theorem tr_reg {n : Int} (h : n ≠ 0 ∧ -4096 ≤ n ∧ n ≤ 4096) : trP (regL n) = n := by
  unfold regL
  split
  · rename_i hn
    obtain ⟨c, t, e, _⟩ := num_cases (-n)
    have e2 := tn_num (n := -n) (by unfold inR; omega)
    rw [e] at e2 ⊢
    show (if (89 : UInt8) = 89 then wrap64 (-(tnP (c :: t))) else tnP (c :: t)) = n
    rw [if_pos rfl, e2, show -(-n) = n by omega]
    exact w64_id (by unfold inR; omega)
  · obtain ⟨c, t, e, _⟩ := num_cases n
    have e2 := tn_num (n := n) (by unfold inR; omega)
    rw [e] at e2 ⊢
    show (if (88 : UInt8) = 89 then wrap64 (-(tnP (c :: t))) else tnP (c :: t)) = n
    rw [if_neg (by decide), e2]
theorem sl_fun (s : List UInt8) (a : Int) : slP (funL s a) = (quoteL s, numL a) := sl_app (num_no 47 (by decide) a)
theorem tp_fun (s : List UInt8) {a : Int} (h : inR a) : tpP (funL s a) = (s, a, 0) := by
  unfold tpP
  rw [sl_fun]
  show (if (quoteL s).head? = some 35 then _ else _) = _
  rw [if_neg (by unfold quoteL; simp), tm_quote, tn_num h]
theorem tp_pred {s : ByteArray} {a n : Int} (h : pdOk s a n = true) : tpP (predL s.data.toList a n) = (s.data.toList, a, n) := by
  unfold pdOk at h
  unfold predL
  split at h
  · rename_i h0
    simp only [Bool.and_eq_true, decide_eq_true_eq] at h
    rw [if_pos h0, tp_fun _ (by unfold inR; omega), h0]
  · rename_i h0
    simp only [Bool.and_eq_true, decide_eq_true_eq, List.isEmpty_iff] at h
    rw [if_neg h0]
    unfold tpP
    have e : slP (35 :: (numL n ++ 47 :: numL a)) = (35 :: numL n, numL a) := sl_app (a := 35 :: numL n) (num_no 47 (by decide) a)
    rw [e]
    rw [if_pos (show (35 :: numL n).head? = some 35 from rfl)]
    show ([], tnP (numL a), tnP (numL n)) = _
    rw [tn_num (n := a) (by unfold inR; omega), tn_num (n := n) (by unfold inR; omega), nil_data h.1]
theorem num_last34 (n : Int) : (numL n).getLast? ≠ some 34 := by
  intro h
  have hm := List.mem_of_getLast? h
  exact num_no 34 (by decide) n hm
theorem tk_key {k n : Int} {s : ByteArray} {a : Int} (h : keyP k n s a = true) (hn : inR n) : tkP (keyL k n s.data.toList a) = (k, n, s.data.toList, a) := by
  unfold keyP at h
  split at h
  · rename_i e
    simp only [Bool.and_eq_true, beq_iff_eq, List.isEmpty_iff] at h
    obtain ⟨rfl, h2, rfl⟩ := h
    subst e
    rw [nil_data h2]
    rfl
  · split at h
    · rename_i e0 e
      simp only [Bool.and_eq_true, beq_iff_eq, List.isEmpty_iff] at h
      obtain ⟨h2, rfl⟩ := h
      subst e
      rw [show keyL 1 n s.data.toList 0 = numL n from rfl, nil_data h2]
      unfold tkP
      obtain ⟨c, t, ec, hc⟩ := num_cases n
      have hc34 : c ≠ 34 ∧ c ≠ 95 := by
        rcases hc with rfl | hc
        · decide
        · constructor <;> (rintro rfl; cases hc)
      rw [if_neg (by rw [ec]; simp; exact fun e => absurd e hc34.2), if_neg (by rw [ec]; simp; exact hc34.1), tn_num hn]
    · split at h
      · rename_i e0 e1 e
        simp only [Bool.and_eq_true, beq_iff_eq] at h
        obtain ⟨_, rfl, rfl⟩ := h
        subst e
        rw [show keyL 2 0 s.data.toList 0 = quoteL s.data.toList from rfl]
        unfold tkP
        rw [if_neg (by unfold quoteL; simp), if_pos (by unfold quoteL; rfl), if_pos (by unfold quoteL; rw [List.getLast?_cons]; simp), tm_quote]
      · split at h
        · rename_i e0 e1 e2 e
          simp only [Bool.and_eq_true, beq_iff_eq, decide_eq_true_eq] at h
          obtain ⟨_, rfl, h3⟩ := h
          subst e
          rw [show keyL 3 0 s.data.toList a = funL s.data.toList a from rfl]
          unfold tkP
          rw [if_neg (by unfold funL quoteL; simp), if_pos (by unfold funL quoteL; rfl), if_neg ?_, sl_fun, tm_quote, tn_num (by unfold inR; omega)]
          obtain ⟨c, t, ec, _⟩ := num_cases a
          have := num_last34 a
          unfold funL
          rw [show quoteL s.data.toList ++ 47 :: numL a = (quoteL s.data.toList ++ [47]) ++ numL a by simp, List.getLast?_append]
          cases hz : (numL a).getLast? with
          | none => rw [ec] at hz; simp at hz
          | some z =>
            rw [hz] at this
            simpa using this
        · cases h

/-! the parts of a line -/
/-- a word: between its quotes anything, no space else -/
def wordOk (w : List UInt8) : Prop := ∀ d t, w.foldl ptStep (d, t, false) = (d, t ++ w, false)
theorem word_nil : wordOk [] := fun d t => by simp
theorem word_app {a b : List UInt8} (ha : wordOk a) (hb : wordOk b) : wordOk (a ++ b) := fun d t => by
  rw [List.foldl_append, ha, hb, List.append_assoc]
theorem word_one {c : UInt8} (h : c ≠ 34 ∧ c ≠ 32) : wordOk [c] := fun d t => by
  show ptStep _ _ = _
  unfold ptStep
  have e1 : (c == 34) = false := by simpa using h.1
  have e2 : (c == 32) = false := by simpa using h.2
  simp only [e1, e2, cond_false, Bool.false_and]
  rfl
theorem word_all : ∀ {w : List UInt8}, (∀ c ∈ w, c ≠ 34 ∧ c ≠ 32) → wordOk w
  | [], _ => word_nil
  | c :: w, h => by
    have := word_app (word_one (h c (by simp))) (word_all (w := w) fun d hd => h d (by simp [hd]))
    exact this
theorem word_num (n : Int) : wordOk (numL n) := word_all fun c hc => by
  constructor
  · rintro rfl; exact num_no _ (by decide) n hc
  · rintro rfl; exact num_no _ (by decide) n hc
theorem hexD_ne {n : Nat} (h : n < 16) : hexD n ≠ 34 := by
  have : ∀ n : Fin 16, hexD n.val ≠ 34 := by decide
  exact this ⟨n, h⟩
theorem esc_no34 (s : List UInt8) : ∀ c ∈ s.flatMap escB, c ≠ 34 := by
  intro c hc
  rw [List.mem_flatMap] at hc
  obtain ⟨b, _, hb⟩ := hc
  unfold escB at hb
  have hbl := b.toNat_lt
  split at hb
  · rename_i hp
    rw [List.mem_singleton] at hb
    subst hb
    rintro rfl
    cases hp
  · simp only [List.mem_cons, List.not_mem_nil, or_false] at hb
    rcases hb with rfl | rfl | rfl | rfl
    · decide
    · decide
    · exact hexD_ne (by omega)
    · exact hexD_ne (by omega)
theorem within_all : ∀ {w : List UInt8}, (∀ c ∈ w, c ≠ 34) → ∀ d t, w.foldl ptStep (d, t, true) = (d, t ++ w, true)
  | [], _, d, t => by simp
  | c :: w, h, d, t => by
    rw [List.foldl_cons]
    have e1 : (c == 34) = false := by simpa using h c (by simp)
    have e : ptStep (d, t, true) c = (d, t ++ [c], true) := by
      unfold ptStep
      simp only [e1, cond_false, Bool.not_true, Bool.and_false]
      rfl
    rw [e, within_all (fun x hx => h x (by simp [hx])), List.append_assoc]
    rfl
theorem word_quote (s : List UInt8) : wordOk (quoteL s) := fun d t => by
  unfold quoteL
  rw [List.foldl_cons, show ptStep (d, t, false) 34 = (d, t ++ [34], true) from rfl, List.foldl_append, within_all (esc_no34 s)]
  show (d, (t ++ [34] ++ s.flatMap escB) ++ [34], false) = _
  simp
theorem word_fun (s : List UInt8) (a : Int) : wordOk (funL s a) := word_app (word_quote s) (word_app (word_one (c := 47) (by decide)) (word_num a))
theorem word_pred (s : List UInt8) (a n : Int) : wordOk (predL s a n) := by
  unfold predL
  split
  · exact word_fun s a
  · exact word_app (word_one (c := 35) (by decide)) (word_app (word_num n) (word_app (word_one (c := 47) (by decide)) (word_num a)))
theorem word_key (k n : Int) (s : List UInt8) (a : Int) : wordOk (keyL k n s a) := by
  unfold keyL
  split
  · exact word_num n
  · split
    · exact word_quote s
    · split
      · exact word_fun s a
      · exact word_one (by decide)
theorem word_reg (n : Int) : wordOk (regL n) := by
  unfold regL
  split
  · exact word_app (word_one (c := 89) (by decide)) (word_num _)
  · exact word_app (word_one (c := 88) (by decide)) (word_num _)
theorem word_field (x : In) (c : UInt8) : wordOk (fieldL x c) := by
  unfold fieldL
  repeat' split
  · exact word_reg _
  · exact word_reg _
  · exact word_quote _
  · exact word_fun _ _
  · exact word_pred _ _ _
  · exact word_num _
theorem word_name (op : Int) : wordOk (nameL op) := by
  by_cases h : okOp op = true
  · refine word_all ?_
    have key : (nameL op).all (fun c => c != 34 && c != 32) = true := by
      rcases op_cases h with rfl | rfl | rfl | rfl | rfl | rfl | rfl | rfl | rfl | rfl | rfl | rfl | rfl | rfl | rfl | rfl | rfl | rfl | rfl | rfl | rfl | rfl | rfl | rfl | rfl
      all_goals decide +kernel
    intro c hc
    have := List.all_eq_true.1 key c hc
    simpa using this
  · have e : nameL op = [] := by unfold nameL; rw [sh_out (by simpa using h)]
    rw [e]
    exact word_nil
theorem pt_words : ∀ (ws : List (List UInt8)) (d : List (List UInt8)) (t : List UInt8), (∀ w ∈ ws, wordOk w) →
    ∃ d2 t2, (ws.flatMap fun w => 32 :: w).foldl ptStep (d, t, false) = (d2, t2, false) ∧ d2 ++ [t2] = d ++ t :: ws
  | [], d, t, _ => ⟨d, t, rfl, rfl⟩
  | w :: ws, d, t, h => by
    rw [List.flatMap_cons, List.foldl_append, List.foldl_cons, show ptStep (d, t, false) 32 = (d ++ [t], [], false) from rfl, h w (by simp)]
    obtain ⟨d2, t2, e1, e2⟩ := pt_words ws (d ++ [t]) ([] ++ w) (fun x hx => h x (by simp [hx]))
    exact ⟨d2, t2, e1, by rw [e2]; simp⟩
theorem pt_line {w : List UInt8} {ws : List (List UInt8)} (h : ∀ x ∈ w :: ws, wordOk x) : ptP (w ++ ws.flatMap fun w => 32 :: w) = w :: ws := by
  unfold ptP ptAll
  rw [List.foldl_append, h w (by simp)]
  obtain ⟨d2, t2, e1, e2⟩ := pt_words ws [] ([] ++ w) (fun x hx => h x (by simp [hx]))
  rw [e1]
  exact e2
/-- a part is no longer than its line -/
theorem pt_word_len (l t : List UInt8) (h : t ∈ ptP l) : t.length ≤ l.length := by
  have key : ∀ (l : List UInt8) (st : List (List UInt8) × List UInt8 × Bool) (n : Nat), (∀ t ∈ st.1, t.length ≤ n) → st.2.1.length ≤ n → (∀ t ∈ (l.foldl ptStep st).1, t.length ≤ n + l.length) ∧ (l.foldl ptStep st).2.1.length ≤ n + l.length := by
    intro l
    induction l with
    | nil => intro st n h1 h2; exact ⟨by simpa using h1, by simpa using h2⟩
    | cons c l ih =>
      intro st n h1 h2
      have := ih (ptStep st c) (n + 1) (by
        intro t ht
        unfold ptStep at ht
        split at ht
        · rw [List.mem_append, List.mem_singleton] at ht
          rcases ht with ht | rfl
          · have := h1 t ht; omega
          · omega
        · have := h1 t ht; omega) (by unfold ptStep; split <;> simp only [List.length_append, List.length_cons, List.length_nil] <;> omega)
      simp only [List.foldl_cons, List.length_cons]
      exact ⟨fun t ht => by have := this.1 t ht; omega, by omega⟩
  have := key l ([], [], false) 0 (by simp) (by simp)
  unfold ptP ptAll at h
  rw [List.mem_append, List.mem_singleton] at h
  rcases h with h | rfl
  · have := this.1 t h; omega
  · omega
end Go.Proofs.YtbipeakinmbdiaaGreatDoor
