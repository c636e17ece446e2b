/-
  The plain law: calls keep stacks valid, and keep what a choice point protects.
-/
import Derived.Test.YtpkpffnabcgcbaaFt
import Derived.Test.YtpkpffnabcgcbaaFv
namespace Go.Proofs.Ytpkpffnabcgcbaa
open Go.RowKit

theorem protV_high (s : St) : protV s = highAt s.chs s.chs.length := by
  unfold protV
  rw [List.getLast?_eq_getElem?]
  cases h : s.chs.length with
  | zero => rw [List.length_eq_zero_iff.1 h]; rfl
  | succ n => rfl
theorem high_succ (l : List Ch) (i : Nat) : highAt l (i + 1) = match l[i]? with | some c => c.envs | none => 0 := rfl
theorem high_take (l : List Ch) {m i : Nat} (h : i ≤ m) : highAt (l.take m) i = highAt l i := by
  cases i with
  | zero => rfl
  | succ i =>
    rw [high_succ, high_succ, List.getElem?_take, if_pos (by omega)]
theorem high_app (l k : List Ch) {i : Nat} (h : i ≤ l.length) : highAt (l ++ k) i = highAt l i := by
  cases i with
  | zero => rfl
  | succ i =>
    rw [high_succ, high_succ, List.getElem?_append_left (by omega)]
def ChOk (l : List Ch) : Prop := ∀ i x, l[i]? = some x → 0 ≤ x.env ∧ x.envs = max x.env (highAt l i)
theorem ChOk.take {l : List Ch} (h : ChOk l) (m : Nat) : ChOk (l.take m) := fun i x hx => by
  rw [List.getElem?_take] at hx
  split at hx
  · rename_i hi
    rw [high_take _ (by omega)]
    exact h i x hx
  · cases hx
theorem ChOk.high {l : List Ch} (_ : ChOk l) {i : Nat} {x : Ch} (hx : l[i]? = some x) : highAt l (i + 1) = x.envs := by
  show (match l[i]? with | some c => c.envs | none => 0) = _
  rw [hx]
theorem ChOk.mono {l : List Ch} (h : ChOk l) : ∀ {i j : Nat}, i ≤ j → j ≤ l.length → highAt l i ≤ highAt l j
  | i, 0, hij, _ => by rw [Nat.le_zero.1 hij]; exact Int.le_refl _
  | i, j + 1, hij, hj => by
    rcases Nat.lt_or_ge i (j + 1) with hlt | hge
    · obtain ⟨x, hx⟩ : ∃ x, l[j]? = some x := ⟨_, List.getElem?_eq_getElem (by omega)⟩
      have h1 := h.mono (i := i) (j := j) (by omega) (by omega)
      have h2 := (h j x hx).2
      rw [h.high hx]
      omega
    · rw [show i = j + 1 by omega]; exact Int.le_refl _
theorem ChOk.nonneg {l : List Ch} (h : ChOk l) {j : Nat} (hj : j ≤ l.length) : 0 ≤ highAt l j := h.mono (i := 0) (Nat.zero_le _) hj
theorem ChOk.app {l : List Ch} (h : ChOk l) {x : Ch} (h0 : 0 ≤ x.env) (h1 : x.envs = max x.env (highAt l l.length)) : ChOk (l ++ [x]) := fun i z hz => by
  rcases Nat.lt_or_ge i l.length with hi | hi
  · rw [List.getElem?_append_left hi] at hz
    rw [high_app _ _ (by omega)]
    exact h i z hz
  · rw [List.getElem?_append_right hi] at hz
    have h2 : i - l.length = 0 := by
      have := (List.getElem?_eq_some_iff.1 hz).1
      simp at this
      omega
    rw [h2] at hz
    simp at hz
    subst hz
    rw [show i = l.length by omega, high_app _ _ (Nat.le_refl _)]
    exact ⟨h0, h1⟩
def EnOk (l : List En) : Prop := ∀ i x, l[i]? = some x → enOk i x
theorem EnOk.take {l : List En} (h : EnOk l) (m : Nat) : EnOk (l.take m) := fun i x hx => by
  rw [List.getElem?_take] at hx
  split at hx
  · exact h i x hx
  · cases hx
theorem EnOk.app {l : List En} (h : EnOk l) {x : En} (hx : enOk l.length x) : EnOk (l ++ [x]) := fun i z hz => by
  rcases Nat.lt_or_ge i l.length with hi | hi
  · rw [List.getElem?_append_left hi] at hz
    exact h i z hz
  · rw [List.getElem?_append_right hi] at hz
    have h2 : i - l.length = 0 := by
      have := (List.getElem?_eq_some_iff.1 hz).1
      simp at this
      omega
    rw [h2] at hz
    simp at hz
    subst hz
    rw [show i = l.length by omega]
    exact hx
theorem EnOk.set {l : List En} (h : EnOk l) {n : Nat} {x : En} (hx : enOk n x) : EnOk (l.set n x) := fun i z hz => by
  by_cases hi : n = i
  · subst hi
    by_cases hl : n < l.length
    · rw [List.getElem?_set_self hl] at hz
      injection hz with hz
      exact hz ▸ hx
    · rw [List.set_eq_of_length_le (by omega)] at hz
      exact h n z hz
  · rw [List.getElem?_set_ne hi] at hz
    exact h i z hz
theorem Good.high {s : St} (g : Good s) : (s.envs.length : Int) = max s.e (protV s) := by rw [protV_high]; exact g.len
theorem Good.chOk {s : St} (g : Good s) : ChOk s.chs := g.ch
theorem Good.enOk {s : St} (g : Good s) : EnOk s.envs := g.en
theorem Good.prot {s : St} (g : Good s) : 0 ≤ protV s := by rw [protV_high]; exact g.chOk.nonneg (Nat.le_refl _)
theorem Good.keep {s : St} (g : Good s) : keepN s = s.envs.length := by
  have h := g.high
  unfold keepN
  omega
theorem Good.sized {s : St} (g : Good s) : Sized s := ⟨by have := g.envs; omega, by have := g.chs; omega, fun x hx => by
  obtain ⟨i, hi⟩ := List.mem_iff_getElem?.1 hx
  have := (g.en i x hi).2.2.2
  omega, by have := g.e; omega⟩
theorem good_drop {t : St} (he : t.envs.length ≤ 1048576) (hc : t.chs.length ≤ 1048576) (hen : EnOk t.envs) (hch : ChOk t.chs) (h0 : 0 ≤ t.e) (hl : max t.e (protV t) ≤ t.envs.length) : Good (dropV t) ∧ (keepN t : Int) = max t.e (protV t) := by
  have hk : (keepN t : Int) = max t.e (protV t) := by unfold keepN; omega
  have hkl : keepN t ≤ t.envs.length := by omega
  refine ⟨⟨?_, hc, hen.take _, hch, h0, ?_⟩, hk⟩
  · show (t.envs.take (keepN t)).length ≤ _
    rw [List.length_take]
    omega
  · show ((t.envs.take (keepN t)).length : Int) = max t.e (highAt t.chs t.chs.length)
    rw [List.length_take, ← protV_high]
    omega
/-- a begins b -/
def Pre {α : Type} (a b : List α) : Prop := b.take a.length = a
theorem Pre.len {α : Type} {a b : List α} (h : Pre a b) : a.length ≤ b.length := by
  have h1 := congrArg List.length h
  rw [List.length_take] at h1
  omega
theorem Pre.refl {α : Type} (a : List α) : Pre a a := List.take_length
theorem Pre.take {α : Type} {a b : List α} (h : Pre a b) {m : Nat} (hm : a.length ≤ m) : Pre a (b.take m) := by
  unfold Pre
  rw [List.take_take, Nat.min_eq_left hm]
  exact h
theorem Pre.app {α : Type} {a b : List α} (h : Pre a b) (c : List α) : Pre a (b ++ c) := by
  unfold Pre
  rw [List.take_append_of_le_length h.len]
  exact h
theorem Pre.set {α : Type} {a b : List α} (h : Pre a b) {n : Nat} (hn : a.length ≤ n) (x : α) : Pre a (b.set n x) := by
  unfold Pre
  rw [List.take_set_of_le hn]
  exact h
theorem Pre.at {α : Type} {a b : List α} (h : Pre a b) {i : Nat} {x : α} (hx : a[i]? = some x) : b[i]? = some x := by
  have hi := (List.getElem?_eq_some_iff.1 hx).1
  rw [← h, List.getElem?_take, if_pos hi] at hx
  exact hx
/-- what a choice point protects: environments E, choice points C -/
structure Held (E : List En) (C : List Ch) (p : St) : Prop where
  good : Good p
  envs : Pre E p.envs
  chs : Pre C p.chs
set_option maxHeartbeats 2000000 in
/-- every call keeps stacks valid, and keeps what C protects, where it doesn't remove a choice point of C -/
theorem held_do {E : List En} {C : List Ch} {p : St} (h : Held E C p) (hC : (E.length : Int) ≤ highAt C C.length) (x : Sp) (h6 : x.what = 6 → C.length < p.chs.length) (h7 : x.what = 7 → (C.length : Int) ≤ x.n) : Held E C (doV p x).1 := by
  have g := h.good
  have hlen := g.high
  have hprot := g.prot
  have hge := g.e
  have hgc := g.chs
  have hgl := g.envs
  have hEl := h.envs.len
  have hCl := h.chs.len
  have hhC : highAt C C.length = highAt p.chs C.length := by
    conv => lhs; rw [show highAt C C.length = highAt (p.chs.take C.length) C.length by rw [show p.chs.take C.length = C from h.chs]]
    exact high_take _ (Nat.le_refl _)
  have hEp : ∀ m, C.length ≤ m → m ≤ p.chs.length → (E.length : Int) ≤ highAt p.chs m := fun m h1 h2 => by
    have := g.chOk.mono h1 h2
    omega
  have hEP : (E.length : Int) ≤ protV p := by rw [protV_high]; exact hEp _ hCl (Nat.le_refl _)
  have hcut : ∀ m, C.length ≤ m → m ≤ p.chs.length → ∀ e : Int, 0 ≤ e → e ≤ p.envs.length → Held E C (dropV ⟨p.envs, e, p.chs.take m⟩) := fun m h1 h2 e h0 h3 => by
    have hpm : protV ⟨p.envs, e, p.chs.take m⟩ = highAt p.chs m := by
      rw [protV_high]
      show highAt (p.chs.take m) (p.chs.take m).length = _
      rw [List.length_take, Nat.min_eq_left h2]
      exact high_take _ (Nat.le_refl _)
    have hle : highAt p.chs m ≤ protV p := by rw [protV_high]; exact g.chOk.mono h2 (Nat.le_refl _)
    obtain ⟨h4, h5⟩ := good_drop (t := ⟨p.envs, e, p.chs.take m⟩) hgl (by show (p.chs.take m).length ≤ _; rw [List.length_take]; omega) g.enOk (g.chOk.take m) h0 (by rw [hpm]; show max e _ ≤ (p.envs.length : Int); omega)
    refine ⟨h4, h.envs.take ?_, h.chs.take h1⟩
    rw [hpm] at h5
    have h8 := hEp m h1 h2
    have h9 : (keepN ⟨p.envs, e, p.chs.take m⟩ : Int) = max e (highAt p.chs m) := h5
    omega
  unfold doV
  split
  · show Held E C (stOf p (allocV p x.n x.id x.pc))
    unfold allocV
    split
    · exact h
    · split
      · exact h
      · rename_i hb hf
        show Held E C ⟨p.envs.take (keepN p) ++ [_], _, p.chs⟩
        rw [g.keep, List.take_length]
        refine ⟨⟨?_, hgc, g.enOk.app ⟨hge, ?_, ?_, ?_⟩, g.ch, ?_, ?_⟩, h.envs.app _, h.chs⟩
        · show (p.envs ++ [_]).length ≤ _
          rw [List.length_append]
          simp
          omega
        · show p.e ≤ _
          omega
        · show 0 ≤ x.pc
          omega
        · show (List.replicate x.n.toNat _).length ≤ 4096
          rw [List.length_replicate]
          omega
        · show 0 ≤ max p.e (protV p) + 1
          omega
        · show ((p.envs ++ [_]).length : Int) = max (max p.e (protV p) + 1) (highAt p.chs p.chs.length)
          rw [List.length_append, ← protV_high]
          simp
          omega
  split
  · show Held E C (freeS p (freeV p))
    unfold freeV curN
    split
    · rename_i n hn
      split at hn
      · injection hn with hn
        split
        · rename_i z hz
          show Held E C (dropV ⟨p.envs, z.prev, p.chs⟩)
          have hzo := g.en _ _ hz
          have h1 := hcut p.chs.length hCl (Nat.le_refl _) z.prev hzo.1 (by have := hzo.2.1; omega)
          rw [List.take_length] at h1
          exact h1
        · exact h
      · cases hn
    · exact h
  split
  · show Held E C (stOf p (trimV p x.n))
    unfold trimV curN
    split
    · rename_i n hn
      split at hn
      · rename_i hc
        injection hn with hn
        split
        · rename_i z hz
          split
          · exact h
          · split
            · rename_i hpr
              have hzo := g.en _ _ hz
              refine ⟨⟨?_, hgc, g.enOk.set ⟨hzo.1, hzo.2.1, hzo.2.2.1, ?_⟩, g.ch, hge, ?_⟩, h.envs.set (by omega) _, h.chs⟩
              · show (p.envs.set _ _).length ≤ _
                rw [List.length_set]
                exact hgl
              · show (z.y.take _).length ≤ 4096
                rw [List.length_take]
                have := hzo.2.2.2
                omega
              · show ((p.envs.set _ _).length : Int) = _
                rw [List.length_set]
                exact g.len
            · exact h
        · exact h
      · cases hn
    · exact h
  split
  · exact h
  split
  · show Held E C (stOf p (setV p x.n x.c))
    unfold setV curN
    split
    · rename_i n hn
      split at hn
      · rename_i hc
        injection hn with hn
        split
        · rename_i z hz
          have hzo := g.en _ _ hz
          have hzl : (z.y.set (x.n - 1).toNat x.c).length ≤ 4096 := by rw [List.length_set]; exact hzo.2.2.2
          split
          · exact h
          · split
            · rename_i hpr
              refine ⟨⟨?_, hgc, g.enOk.set ⟨hzo.1, hzo.2.1, hzo.2.2.1, hzl⟩, g.ch, hge, ?_⟩, h.envs.set (by omega) _, h.chs⟩
              · show (p.envs.set _ _).length ≤ _
                rw [List.length_set]
                exact hgl
              · show ((p.envs.set _ _).length : Int) = _
                rw [List.length_set]
                exact g.len
            · split
              · exact h
              · rename_i hpr hf
                show Held E C ⟨p.envs.take (keepN p) ++ [_], _, p.chs⟩
                rw [g.keep, List.take_length]
                have hz2 := (List.getElem?_eq_some_iff.1 hz).1
                refine ⟨⟨?_, hgc, g.enOk.app ⟨hzo.1, ?_, hzo.2.2.1, hzl⟩, g.ch, ?_, ?_⟩, h.envs.app _, h.chs⟩
                · show (p.envs ++ [_]).length ≤ _
                  rw [List.length_append]
                  simp
                  omega
                · show z.prev ≤ _
                  have := hzo.2.1
                  omega
                · show 0 ≤ (p.envs.length : Int) + 1
                  omega
                · show ((p.envs ++ [_]).length : Int) = max ((p.envs.length : Int) + 1) (highAt p.chs p.chs.length)
                  rw [List.length_append, ← protV_high]
                  simp
                  omega
        · exact h
      · cases hn
    · exact h
  split
  · show Held E C (stOf p (pushV p x.ch))
    unfold pushV
    split
    · exact h
    · rename_i hf
      refine ⟨⟨hgl, ?_, g.en, g.chOk.app hge (by show max p.e (protV p) = _; rw [protV_high]), hge, ?_⟩, h.envs, h.chs.app _⟩
      · show (p.chs ++ [_]).length ≤ _
        rw [List.length_append]
        simp
        omega
      · show (p.envs.length : Int) = max p.e (highAt (p.chs ++ [_]) (p.chs ++ [_]).length)
        have e1 : highAt (p.chs ++ [{ x.ch with env := p.e, envs := max p.e (protV p) }]) (p.chs ++ [{ x.ch with env := p.e, envs := max p.e (protV p) }]).length = max p.e (protV p) := by
          rw [List.length_append]
          show (match (p.chs ++ [_])[p.chs.length]? with | some c => c.envs | none => 0) = _
          rw [List.getElem?_append_right (Nat.le_refl _), Nat.sub_self]
          rfl
        rw [e1]
        omega
  split
  · rename_i h6'
    show Held E C (popS p (popR p))
    have hlt := h6 h6'
    unfold popR
    rcases hch : p.chs.getLast? with _ | c
    · exact h
    · show Held E C (dropV ⟨p.envs, c.env, p.chs.take (p.chs.length - 1)⟩)
      have hx : p.chs[p.chs.length - 1]? = some c := by rw [List.getLast?_eq_getElem?] at hch; exact hch
      obtain ⟨c0, c1⟩ := g.ch _ _ hx
      have hpc : protV p = c.envs := by unfold protV; rw [hch]
      exact hcut _ (by omega) (by omega) _ c0 (by omega)
  split
  · rename_i h7'
    show Held E C (stOf p (cutV p x.n))
    have hle := h7 h7'
    unfold cutV
    split
    · exact h
    · rename_i hb
      show Held E C (dropV ⟨p.envs, p.e, p.chs.take x.n.toNat⟩)
      exact hcut _ (by omega) (by omega) _ hge (by omega)
  · exact h
/-- Push, calls, Cut, Pop: the stacks as they were -/
theorem back {s p : St} {c : Ch} (g : Good s) (h : Held s.envs (s.chs ++ [{ c with env := s.e, envs := max s.e (protV s) }]) p) :
    ∃ p', cutV p (s.chs.length + 1) = .ok p' ∧ Good p' ∧ popR p' = .ok (s, { c with env := s.e, envs := max s.e (protV s) }) := by
  obtain ⟨x, hx⟩ : ∃ x : Ch, x = { c with env := s.e, envs := max s.e (protV s) } := ⟨_, rfl⟩
  rw [← hx] at h ⊢
  have hxe : x.env = s.e := by rw [hx]
  have hxs : x.envs = max s.e (protV s) := by rw [hx]
  have hl := h.chs.len
  rw [List.length_append] at hl
  have hl : s.chs.length + 1 ≤ p.chs.length := by simpa using hl
  have hchs : p.chs.take (s.chs.length + 1) = s.chs ++ [x] := by
    have := h.chs
    unfold Pre at this
    rw [List.length_append] at this
    exact this
  have hEl := h.envs.len
  have hgh := g.high
  have hph := h.good.high
  have hpr : protV ⟨p.envs, p.e, s.chs ++ [x]⟩ = x.envs := by
    unfold protV
    rw [List.getLast?_append]
    rfl
  have hle : x.envs ≤ protV p := by
    have h1 := h.good.chOk.mono (i := s.chs.length + 1) (j := p.chs.length) hl (Nat.le_refl _)
    rw [← protV_high] at h1
    have h2 : p.chs[s.chs.length]? = some x := h.chs.at (by rw [List.getElem?_append_right (Nat.le_refl _), Nat.sub_self]; rfl)
    rw [h.good.chOk.high h2] at h1
    exact h1
  obtain ⟨h4, h5⟩ := good_drop (t := ⟨p.envs, p.e, s.chs ++ [x]⟩) h.good.envs (by show (s.chs ++ [x]).length ≤ _; rw [← hchs, List.length_take]; have := h.good.chs; omega) h.good.enOk (by show ChOk (s.chs ++ [x]); rw [← hchs]; exact h.good.chOk.take _) h.good.e (by rw [hpr]; show max p.e _ ≤ (p.envs.length : Int); omega)
  rw [hpr] at h5
  have h5 : (keepN ⟨p.envs, p.e, s.chs ++ [x]⟩ : Int) = max p.e x.envs := h5
  refine ⟨dropV ⟨p.envs, p.e, s.chs ++ [x]⟩, ?_, h4, ?_⟩
  · unfold cutV
    rw [if_neg (by omega), show ((s.chs.length : Int) + 1).toNat = s.chs.length + 1 by omega, hchs]
  · obtain ⟨m, hm⟩ : ∃ m, m = keepN ⟨p.envs, p.e, s.chs ++ [x]⟩ := ⟨_, rfl⟩
    rw [← hm] at h5
    have hd : dropV ⟨p.envs, p.e, s.chs ++ [x]⟩ = ⟨p.envs.take m, p.e, s.chs ++ [x]⟩ := by unfold dropV; rw [← hm]
    rw [hd]
    unfold popR
    rw [show (⟨p.envs.take m, p.e, s.chs ++ [x]⟩ : St).chs.getLast? = some x by show (s.chs ++ [x]).getLast? = _; rw [List.getLast?_append]; rfl]
    show Except.ok (dropV ⟨p.envs.take m, x.env, (s.chs ++ [x]).take ((s.chs ++ [x]).length - 1)⟩, x) = _
    rw [List.length_append, show s.chs.length + [x].length - 1 = s.chs.length from rfl, List.take_left]
    have hlen : (p.envs.take m).length = m := by rw [List.length_take]; omega
    have hk : keepN ⟨p.envs.take m, x.env, s.chs⟩ = s.envs.length := by
      have h1 : keepN ⟨p.envs.take m, x.env, s.chs⟩ = (min (max (max x.env (protV s)) 0) ((p.envs.take m).length : Int)).toNat := rfl
      rw [h1, hlen]
      omega
    unfold dropV
    rw [hk]
    show Except.ok ((⟨(p.envs.take m).take s.envs.length, x.env, s.chs⟩ : St), x) = _
    rw [List.take_take, Nat.min_eq_left (by omega), show p.envs.take s.envs.length = s.envs from h.envs, hxe]
end Go.Proofs.Ytpkpffnabcgcbaa
