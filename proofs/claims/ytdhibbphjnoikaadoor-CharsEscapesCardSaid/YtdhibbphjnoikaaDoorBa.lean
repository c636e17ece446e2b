/-
  Plain laws: conversion tables as lists of pairs.
-/
import Derived.WalkKit
namespace Go.Proofs.YtdhibbphjnoikaaDoor
open Go.RowKit
abbrev Tab := List (Int × Int)
def chr (c : Int) : Bool := decide (0 ≤ c) && decide (c ≤ 255)
theorem chr_iff {c : Int} : chr c = true ↔ 0 ≤ c ∧ c ≤ 255 := by simp [chr]
theorem chr_no {c : Int} : chr c = false ↔ ¬ (0 ≤ c ∧ c ≤ 255) := by rw [← chr_iff]; simp
def okAt (l : Tab) (i : Nat) : Bool := chr (l.getD i (0, 0)).1 && chr (l.getD i (0, 0)).2 && !((l.getD i (0, 0)).1 == (l.getD i (0, 0)).2) && (i == 0 || decide ((l.getD (i - 1) (0, 0)).1 < (l.getD i (0, 0)).1))
def vld (l : Tab) : Bool := (List.range l.length).all (okAt l)
theorem vld_iff {l : Tab} : vld l = true ↔ ∀ i, i < l.length → okAt l i = true := by simp [vld]
theorem vld_bad {l : Tab} {i : Nat} (hi : i < l.length) (h : okAt l i = false) : vld l = false := by
  cases hv : vld l
  · rfl
  · rw [vld_iff] at hv; rw [hv i hi] at h; cases h
/-- a table in order: keys ascend, keys and values are characters, and differ -/
def Srt (lo : Int) : Tab → Prop
  | [] => True
  | x :: t => lo ≤ x.1 ∧ x.1 ≤ 255 ∧ 0 ≤ x.2 ∧ x.2 ≤ 255 ∧ x.1 ≠ x.2 ∧ Srt (x.1 + 1) t
theorem Srt.mono {lo lo' : Int} : ∀ {l : Tab}, Srt lo l → lo' ≤ lo → Srt lo' l
  | [], _, _ => trivial
  | _ :: _, h, hl => ⟨by have := h.1; omega, h.2⟩
theorem okAt_cons (x : Int × Int) (t : Tab) (i : Nat) : okAt (x :: t) (i + 1) = true → (i = 0 → x.1 < (t.getD 0 (0, 0)).1) ∧ okAt t i = true := by
  unfold okAt
  cases i with
  | zero => simp; exact fun a b c d => ⟨d, ⟨a, b⟩, c⟩
  | succ i => simp
theorem srt_of {l : Tab} : ∀ {lo : Int}, (∀ i, i < l.length → okAt l i = true) → (0 < l.length → lo ≤ (l.getD 0 (0, 0)).1) → Srt lo l := by
  induction l with
  | nil => intros; trivial
  | cons x t ih =>
    intro lo h h0
    have hx := h 0 (by simp)
    simp only [okAt, List.getD_cons_zero, beq_self_eq_true, Bool.true_or, Bool.and_true, Bool.and_eq_true, chr_iff, Bool.not_eq_true', beq_eq_false_iff_ne] at hx
    refine ⟨h0 (by simp), hx.1.1.2, hx.1.2.1, hx.1.2.2, hx.2, ih (fun i hi => (okAt_cons x t i (h (i + 1) (by simpa using hi))).2) fun ht => ?_⟩
    have := (okAt_cons x t 0 (h 1 (by simpa using ht))).1 rfl
    omega
theorem srt_vld {l : Tab} (h : vld l = true) : Srt 0 l := by
  rw [vld_iff] at h
  refine srt_of h fun h0 => ?_
  have := h 0 h0
  simp only [okAt, Bool.and_eq_true, chr_iff] at this
  exact this.1.1.1.1
theorem srt_at {l : Tab} : ∀ {lo : Int}, Srt lo l → ∀ i, i < l.length → (lo ≤ (l.getD i (0, 0)).1 ∧ (l.getD i (0, 0)).1 ≤ 255 ∧ 0 ≤ (l.getD i (0, 0)).2 ∧ (l.getD i (0, 0)).2 ≤ 255 ∧ (l.getD i (0, 0)).1 ≠ (l.getD i (0, 0)).2) ∧ (0 < i → (l.getD (i - 1) (0, 0)).1 < (l.getD i (0, 0)).1) := by
  induction l with
  | nil => intro _ _ i hi; simp at hi
  | cons x t ih =>
    intro lo h i hi
    cases i with
    | zero => exact ⟨⟨h.1, h.2.1, h.2.2.1, h.2.2.2.1, h.2.2.2.2.1⟩, fun h => absurd h (by omega)⟩
    | succ i =>
      have h2 := ih h.2.2.2.2.2 i (by simpa using hi)
      simp only [List.getD_cons_succ]
      refine ⟨⟨by have := h2.1.1; have := h.1; omega, h2.1.2⟩, fun _ => ?_⟩
      cases i with
      | zero => have := h2.1.1; simp at this ⊢; omega
      | succ i => simpa using h2.2 (by omega)
theorem vld_srt {l : Tab} (h : Srt 0 l) : vld l = true := by
  rw [vld_iff]
  intro i hi
  have h2 := srt_at h i hi
  simp only [okAt, Bool.and_eq_true, chr_iff, Bool.not_eq_true', beq_eq_false_iff_ne, Bool.or_eq_true, beq_iff_eq, decide_eq_true_eq]
  refine ⟨⟨⟨⟨h2.1.1, h2.1.2.1⟩, h2.1.2.2.1, h2.1.2.2.2.1⟩, h2.1.2.2.2.2⟩, ?_⟩
  by_cases h0 : i = 0
  · exact .inl h0
  · exact .inr (h2.2 (by omega))
/-- the character to which a table converts one -/
def conv (l : Tab) (c : Int) : Int := ((l.find? fun x => x.1 == c).map (·.2)).getD c
def cv (l : Tab) (c : Int) : Int := if vld l && chr c then conv l c else 0
theorem conv_nil (c : Int) : conv [] c = c := rfl
theorem conv_cons (x : Int × Int) (t : Tab) (c : Int) : conv (x :: t) c = if x.1 = c then x.2 else conv t c := by
  unfold conv
  rw [List.find?_cons]
  by_cases h : x.1 = c
  · simp [h]
  · have : (x.1 == c) = false := by simpa using h
    simp [this, h]
theorem conv_below {l : Tab} : ∀ {lo : Int}, Srt lo l → ∀ {c : Int}, c < lo → conv l c = c := by
  induction l with
  | nil => intros; rfl
  | cons x t ih =>
    intro lo h c hc
    rw [conv_cons, if_neg (by have := h.1; omega)]
    exact ih h.2.2.2.2.2 (by have := h.1; omega)
/-- the pairs of a function, for the n characters from lo on -/
def lst (f : Int → Int) (lo : Int) : Nat → Tab
  | 0 => []
  | n + 1 => (if f lo ≠ lo then [(lo, f lo)] else []) ++ lst f (lo + 1) n
theorem lst_congr {f g : Int → Int} : ∀ {n : Nat} {lo : Int}, (∀ c, lo ≤ c → c < lo + n → f c = g c) → lst f lo n = lst g lo n
  | 0, _, _ => rfl
  | n + 1, lo, h => by
    unfold lst
    rw [h lo (by omega) (by omega), lst_congr (n := n) (lo := lo + 1) fun c h1 h2 => h c (by omega) (by omega)]
theorem lst_conv {l : Tab} : ∀ {n : Nat} {lo : Int}, Srt lo l → lo + n = 256 → lst (conv l) lo n = l := by
  intro n
  induction n generalizing l with
  | zero =>
    intro lo h hn
    cases l with
    | nil => rfl
    | cons x t => exfalso; have := h.1; have := h.2.1; omega
  | succ n ih =>
    intro lo h hn
    unfold lst
    cases l with
    | nil =>
      rw [conv_nil, if_neg (by simp), List.nil_append]
      exact ih (l := []) (lo := lo + 1) trivial (by omega)
    | cons x t =>
      by_cases hx : x.1 = lo
      · have hc : conv (x :: t) lo = x.2 := by rw [conv_cons, if_pos hx]
        rw [hc, if_pos (by have := h.2.2.2.2.1; omega)]
        have h2 := ih (l := t) (lo := lo + 1) (by rw [← hx]; exact h.2.2.2.2.2) (by omega)
        rw [lst_congr (g := conv t) fun c h1 _ => by rw [conv_cons, if_neg (by omega)], h2]
        rw [← hx]; rfl
      · have hlo := h.1
        have hc : conv (x :: t) lo = lo := by
          rw [conv_cons, if_neg hx]
          exact conv_below h.2.2.2.2.2 (by omega)
        rw [hc, if_neg (by simp), List.nil_append]
        exact ih (l := x :: t) (lo := lo + 1) ⟨by omega, h.2⟩ (by omega)
theorem lst_srt {f : Int → Int} : ∀ {n : Nat} {lo : Int}, lo + n = 256 → (∀ c, lo ≤ c → c ≤ 255 → 0 ≤ f c ∧ f c ≤ 255) → Srt lo (lst f lo n)
  | 0, _, _, _ => trivial
  | n + 1, lo, hn, hf => by
    unfold lst
    have h2 := lst_srt (f := f) (n := n) (lo := lo + 1) (by omega) fun c h1 h2 => hf c (by omega) h2
    have h3 := hf lo (by omega) (by omega)
    by_cases h : f lo ≠ lo
    · rw [if_pos h]
      exact ⟨by simp, by simp; omega, h3.1, h3.2, fun e => h e.symm, h2⟩
    · rw [if_neg h]
      exact h2.mono (by omega)
theorem conv_lst {f : Int → Int} : ∀ {n : Nat} {lo : Int}, lo + n = 256 → ∀ {c : Int}, lo ≤ c → c ≤ 255 → conv (lst f lo n) c = f c
  | 0, lo, hn, c, h1, h2 => by omega
  | n + 1, lo, hn, c, h1, h2 => by
    unfold lst
    by_cases h : f lo ≠ lo
    · rw [if_pos h]
      show conv ((lo, f lo) :: lst f (lo + 1) n) c = f c
      rw [conv_cons]
      by_cases he : lo = c
      · rw [if_pos he, ← he]
      · rw [if_neg he]; exact conv_lst (by omega) (by omega) h2
    · rw [if_neg h, List.nil_append]
      by_cases he : lo = c
      · subst he
        have hf : f lo = lo := Classical.byContradiction h
        rw [hf]
        by_cases hn0 : n = 0
        · subst hn0; rfl
        · exact conv_below' (f := f) (n := n) (by omega)
      · exact conv_lst (by omega) (by omega) h2
where
  conv_below' {f : Int → Int} {n : Nat} {lo c : Int} (h : c < lo) : conv (lst f lo n) c = c := by
    induction n generalizing lo with
    | zero => rfl
    | succ n ih =>
      unfold lst
      by_cases hf : f lo ≠ lo
      · rw [if_pos hf]
        show conv ((lo, f lo) :: lst f (lo + 1) n) c = c
        rw [conv_cons, if_neg (by omega)]
        exact ih (by omega)
      · rw [if_neg hf]; exact ih (by omega)
/-- the table after a change -/
def upd (l : Tab) (a b : Int) : Int → Int := fun c => if c = a then b else conv l c
def setT (l : Tab) (a b : Int) : Tab := lst (upd l a b) 0 256
/-- the first place whose key is not below c -/
def pos (l : Tab) (c : Int) : Nat := l.findIdx fun x => decide (c ≤ x.1)
def setP (l : Tab) (a b : Int) : Tab := l.take (pos l a) ++ (if a ≠ b then [(a, b)] else []) ++ l.drop (if (l.getD (pos l a) (0, 0)).1 = a ∧ pos l a < l.length then pos l a + 1 else pos l a)
def ins (a b : Int) : Tab → Tab
  | [] => if a ≠ b then [(a, b)] else []
  | x :: t => if x.1 < a then x :: ins a b t else (if a ≠ b then [(a, b)] else []) ++ (if x.1 = a then t else x :: t)
theorem setP_ins (a b : Int) : ∀ l : Tab, setP l a b = ins a b l
  | [] => by simp [setP, ins, pos]
  | x :: t => by
    unfold ins
    by_cases h : x.1 < a
    · rw [if_pos h, ← setP_ins a b t]
      have hp : pos (x :: t) a = pos t a + 1 := by
        unfold pos
        rw [List.findIdx_cons]
        have : decide (a ≤ x.1) = false := by simp; omega
        rw [this]; rfl
      unfold setP
      rw [hp]
      simp only [List.take_succ_cons, List.cons_append, List.getD_cons_succ, List.length_cons, Nat.add_lt_add_iff_right]
      have ed : ∀ (P : Prop) [Decidable P], List.drop (if P then pos t a + 1 + 1 else pos t a + 1) (x :: t) = List.drop (if P then pos t a + 1 else pos t a) t := fun P _ => by split <;> rfl
      rw [ed]

    · rw [if_neg h]
      have hp : pos (x :: t) a = 0 := by
        unfold pos
        rw [List.findIdx_cons]
        have : decide (a ≤ x.1) = true := by simp; omega
        rw [this]; rfl
      unfold setP
      rw [hp]
      simp only [List.take_zero, List.nil_append, List.getD_cons_zero, List.length_cons, Nat.zero_lt_succ, and_true]
      by_cases e : x.1 = a
      · rw [if_pos e, if_pos e]; rfl
      · rw [if_neg e, if_neg e]; rfl
theorem ins_srt {a b : Int} (ha : a ≤ 255) (hb : 0 ≤ b ∧ b ≤ 255) : ∀ {l : Tab} {lo : Int}, Srt lo l → lo ≤ a → Srt lo (ins a b l)
  | [], lo, _, hl => by
    unfold ins
    by_cases e : a ≠ b
    · rw [if_pos e]; exact ⟨hl, ha, hb.1, hb.2, e, trivial⟩
    · rw [if_neg e]; trivial
  | x :: t, lo, h, hl => by
    unfold ins
    by_cases h1 : x.1 < a
    · rw [if_pos h1]
      exact ⟨h.1, h.2.1, h.2.2.1, h.2.2.2.1, h.2.2.2.2.1, ins_srt ha hb h.2.2.2.2.2 (by omega)⟩
    · rw [if_neg h1]
      have ht : Srt (a + 1) (if x.1 = a then t else x :: t) := by
        by_cases e : x.1 = a
        · rw [if_pos e, ← e]; exact h.2.2.2.2.2
        · rw [if_neg e]; exact ⟨by omega, h.2⟩
      by_cases e : a ≠ b
      · rw [if_pos e]; exact ⟨hl, ha, hb.1, hb.2, e, ht⟩
      · rw [if_neg e]; exact ht.mono (by omega)
theorem ins_conv {a b : Int} : ∀ {l : Tab} {lo : Int}, Srt lo l → ∀ c, conv (ins a b l) c = upd l a b c
  | [], lo, _, c => by
    unfold ins upd
    rw [conv_nil]
    by_cases e : a ≠ b
    · rw [if_pos e, conv_cons, conv_nil]
      by_cases h : a = c
      · rw [if_pos h, if_pos h.symm]
      · rw [if_neg h, if_neg (fun e => h e.symm)]
    · rw [if_neg e, conv_nil]
      by_cases h : c = a
      · rw [if_pos h, h]; exact Classical.byContradiction e
      · rw [if_neg h]
  | x :: t, lo, hs, c => by
    unfold ins
    by_cases h1 : x.1 < a
    · rw [if_pos h1, conv_cons, ins_conv hs.2.2.2.2.2 c]
      unfold upd
      rw [conv_cons]
      by_cases h : x.1 = c
      · rw [if_pos h, if_neg (by omega), if_pos h]
      · rw [if_neg h, if_neg h]
    · rw [if_neg h1]
      have hrest : conv (if x.1 = a then t else x :: t) c = if c = a then a else conv (x :: t) c := by
        by_cases e : x.1 = a
        · rw [if_pos e, conv_cons]
          by_cases h : c = a
          · rw [if_pos h, h]; exact conv_below hs.2.2.2.2.2 (by omega)
          · rw [if_neg h, if_neg (by omega)]
        · rw [if_neg e]
          by_cases h : c = a
          · rw [if_pos h, h, conv_cons, if_neg e]; exact conv_below hs.2.2.2.2.2 (by omega)
          · rw [if_neg h]
      unfold upd
      by_cases e : a ≠ b
      · rw [if_pos e]
        show conv ((a, b) :: (if x.1 = a then t else x :: t)) c = _
        rw [conv_cons, hrest]
        by_cases h : c = a
        · rw [if_pos h.symm, if_pos h]
        · rw [if_neg (fun e => h e.symm), if_neg h, if_neg h]
      · rw [if_neg e, List.nil_append, hrest]
        have e2 : a = b := Classical.byContradiction e
        rw [← e2]
/-- the program's table is the reference's -/
theorem setP_eq {l : Tab} {a b : Int} (hl : vld l = true) (ha : chr a = true) (hb : chr b = true) : setP l a b = setT l a b := by
  have hs := srt_vld hl
  rw [chr_iff] at ha hb
  rw [setP_ins]
  have h := lst_conv (n := 256) (lo := 0) (ins_srt ha.2 hb hs ha.1) (by omega)
  rw [← h]
  unfold setT
  exact lst_congr fun c _ _ => ins_conv hs c
theorem setT_vld {l : Tab} {a b : Int} (hl : vld l = true) (ha : chr a = true) (hb : chr b = true) : vld (setT l a b) = true := by
  rw [← setP_eq hl ha hb, setP_ins]
  rw [chr_iff] at ha hb
  exact vld_srt (ins_srt ha.2 hb (srt_vld hl) ha.1)
theorem setT_conv {l : Tab} {a b : Int} (hl : vld l = true) (ha : chr a = true) (hb : chr b = true) (c : Int) : conv (setT l a b) c = upd l a b c := by
  rw [← setP_eq hl ha hb, setP_ins]
  exact ins_conv (srt_vld hl) c
theorem conv_in {l : Tab} : ∀ {lo : Int}, Srt lo l → ∀ {c : Int}, 0 ≤ c → c ≤ 255 → 0 ≤ conv l c ∧ conv l c ≤ 255 := by
  induction l with
  | nil => intro _ _ c h1 h2; exact ⟨h1, h2⟩
  | cons x t ih =>
    intro lo h c h1 h2
    rw [conv_cons]
    split
    · exact ⟨h.2.2.1, h.2.2.2.1⟩
    · exact ih h.2.2.2.2.2 h1 h2
/-- setting back restores a table -/
theorem setT_back {l : Tab} {a b : Int} (hl : vld l = true) (ha : chr a = true) (hb : chr b = true) : setT (setT l a b) a (conv l a) = l := by
  have h := lst_conv (n := 256) (lo := 0) (srt_vld hl) (by omega)
  refine Eq.trans ?_ h
  unfold setT
  refine lst_congr fun c _ _ => ?_
  unfold upd
  by_cases e : c = a
  · rw [if_pos e, e]
  · rw [if_neg e]
    have := setT_conv hl ha hb c
    unfold setT upd at this
    rw [this, if_neg e]
/-- two characters can be set in either order -/
theorem setT_comm {l : Tab} {a x b y : Int} (hl : vld l = true) (ha : chr a = true) (hx : chr x = true) (hb : chr b = true) (hy : chr y = true) (hne : a ≠ b) : setT (setT l a x) b y = setT (setT l b y) a x := by
  refine lst_congr fun c _ _ => ?_
  unfold upd
  rw [setT_conv hl ha hx c, setT_conv hl hb hy c]
  unfold upd
  by_cases e1 : c = a
  · subst e1; rw [if_neg hne, if_pos rfl, if_pos rfl]
  · rw [if_neg e1, if_neg e1]
end Go.Proofs.YtdhibbphjnoikaaDoor
