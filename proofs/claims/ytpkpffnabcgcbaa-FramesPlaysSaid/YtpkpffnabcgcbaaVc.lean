/-
  The plain law of views: what each call does to the view.
-/
import Derived.Test.YtpkpffnabcgcbaaPa
import Derived.Test.YtpkpffnabcgcbaaVa
namespace Go.Proofs.Ytpkpffnabcgcbaa
open Go.RowKit

theorem errOf_ok {α : Type} {r : Except Int α} (h : ∀ e, r = .error e → e ≠ 0) (h0 : errOf r = 0) : ∃ t, r = .ok t := by
  cases r with
  | ok t => exact ⟨t, rfl⟩
  | error e => exact absurd h0 (h e rfl)
theorem curN_some {p : St} {n : Nat} (h : curN p = some n) : p.e = (n : Int) + 1 ∧ n < p.envs.length := by
  unfold curN at h
  split at h
  · injection h with h
    omega
  · cases h
theorem curN_of {p : St} {n : Nat} (h : p.e = (n : Int) + 1) (hn : n < p.envs.length) : curN p = some n := by
  unfold curN
  rw [if_pos (by omega)]
  congr 1
  omega
/-- the view of stacks whose current environment is the n-th -/
theorem view_cur {p : St} (g : Good p) {n : Nat} {z : En} (he : p.e = (n : Int) + 1) (hz : p.envs[n]? = some z) : viewV p = { z with prev := 0 } :: viewA p.envs z.prev := by
  unfold viewV
  rw [he]
  exact viewA_step g.en hz
theorem alloc_err {p : St} {n id pc e : Int} (h : allocV p n id pc = .error e) : e ≠ 0 := by
  unfold allocV at h
  split at h
  · cases h; decide
  · split at h
    · cases h; decide
    · cases h
theorem free_err {p : St} {e : Int} (h : freeV p = .error e) : e ≠ 0 := by
  unfold freeV at h
  split at h
  · split at h
    · cases h
    · cases h; decide
  · cases h; decide
theorem trim_err {p : St} {n e : Int} (h : trimV p n = .error e) : e ≠ 0 := by
  unfold trimV at h
  split at h
  · split at h
    · split at h
      · cases h; decide
      · split at h <;> cases h
    · cases h; decide
  · cases h; decide
theorem get_err {p : St} {n e : Int} (h : getV p n = .error e) : e ≠ 0 := by
  unfold getV at h
  split at h
  · split at h
    · split at h
      · cases h; decide
      · split at h
        · cases h
        · cases h; decide
    · cases h; decide
  · cases h; decide
theorem set_err {p : St} {n e : Int} {c : Cl} (h : setV p n c = .error e) : e ≠ 0 := by
  unfold setV at h
  split at h
  · split at h
    · split at h
      · cases h; decide
      · split at h
        · cases h
        · split at h
          · cases h; decide
          · cases h
    · cases h; decide
  · cases h; decide
theorem push_err {p : St} {x : Ch} {e : Int} (h : pushV p x = .error e) : e ≠ 0 := by
  unfold pushV at h
  split at h
  · cases h; decide
  · cases h
theorem pop_err {p : St} {e : Int} (h : popR p = .error e) : e ≠ 0 := by
  unfold popR at h
  split at h
  · cases h
  · cases h; decide
theorem cut_err {p : St} {n e : Int} (h : cutV p n = .error e) : e ≠ 0 := by
  unfold cutV at h
  split at h
  · cases h; decide
  · cases h
/-- a call that tells an error changes nothing -/
theorem do_err {p : St} {x : Sp} (h : (doV p x).2.e ≠ 0) : (doV p x).1 = p := by
  unfold doV at h ⊢
  split
  · rename_i h0
    rw [if_pos h0] at h
    cases hr : allocV p x.n x.id x.pc with
    | ok t => rw [hr] at h; exact absurd rfl h
    | error e => rfl
  rename_i h0
  rw [if_neg h0] at h
  split
  · rename_i h1
    rw [if_pos h1] at h
    cases hr : freeV p with
    | ok t => rw [hr] at h; exact absurd rfl h
    | error e => rfl
  rename_i h1
  rw [if_neg h1] at h
  split
  · rename_i h2
    rw [if_pos h2] at h
    cases hr : trimV p x.n with
    | ok t => rw [hr] at h; exact absurd rfl h
    | error e => rfl
  rename_i h2
  rw [if_neg h2] at h
  split
  · rfl
  rename_i h3
  rw [if_neg h3] at h
  split
  · rename_i h4
    rw [if_pos h4] at h
    cases hr : setV p x.n x.c with
    | ok t => rw [hr] at h; exact absurd rfl h
    | error e => rfl
  rename_i h4
  rw [if_neg h4] at h
  split
  · rename_i h5
    rw [if_pos h5] at h
    cases hr : pushV p x.ch with
    | ok t => rw [hr] at h; exact absurd rfl h
    | error e => rfl
  rename_i h5
  rw [if_neg h5] at h
  split
  · rename_i h6
    rw [if_pos h6] at h
    cases hr : popR p with
    | ok t => rw [hr] at h; exact absurd rfl h
    | error e => rfl
  rename_i h6
  rw [if_neg h6] at h
  split
  · rename_i h7
    rw [if_pos h7] at h
    cases hr : cutV p x.n with
    | ok t => rw [hr] at h; exact absurd rfl h
    | error e => rfl
  · rfl
theorem view_alloc {p : St} (g : Good p) {n id pc : Int} (h : errOf (allocV p n id pc) = 0) :
    0 ≤ n ∧ n ≤ 4096 ∧ viewV (stOf p (allocV p n id pc)) = ⟨0, id, pc, List.replicate n.toNat ⟨1, 0⟩⟩ :: viewV p := by
  unfold allocV at h ⊢
  split
  · rename_i hc; rw [if_pos hc] at h; cases h
  · rename_i hc
    rw [if_neg hc] at h
    split
    · rename_i hf; rw [if_pos hf] at h; cases h
    · rename_i hf
      have hlen := g.high
      have he := g.e
      refine ⟨by omega, by omega, ?_⟩
      show viewA (p.envs.take (keepN p) ++ [_]) (max p.e (protV p) + 1) = _
      rw [g.keep, List.take_length, ← hlen]
      have hen : EnOk (p.envs ++ [⟨p.e, id, pc, List.replicate n.toNat ⟨1, 0⟩⟩]) := g.enOk.app ⟨he, by show p.e ≤ _; omega, by show 0 ≤ pc; omega, by show (List.replicate n.toNat _).length ≤ 4096; rw [List.length_replicate]; omega⟩
      rw [viewA_step hen (n := p.envs.length) (x := ⟨p.e, id, pc, List.replicate n.toNat ⟨1, 0⟩⟩) (by rw [List.getElem?_append_right (Nat.le_refl _), Nat.sub_self]; rfl)]
      congr 1
      exact viewA_take (k := p.envs.length) (by rw [List.take_left, List.take_length]) (by show p.e ≤ _; omega) (by rw [List.length_append]; omega) (Nat.le_refl _) hen
theorem view_free {p : St} (g : Good p) (h : errOf (freeV p) = 0) : ∃ (z : En) (rest : List En), viewV p = { z with prev := 0 } :: rest ∧ frI (freeV p) = z.id ∧ frP (freeV p) = z.pc ∧ viewV (freeS p (freeV p)) = rest := by
  unfold freeV at h ⊢
  cases hc : curN p with
  | none => rw [hc] at h; cases h
  | some n =>
    rw [hc] at h
    obtain ⟨he, hn⟩ := curN_some hc
    cases hz : p.envs[n]? with
    | none => simp only [hz] at h; cases h
    | some z =>
      simp only [hz]
      refine ⟨z, viewA p.envs z.prev, view_cur g he hz, rfl, rfl, ?_⟩
      show viewA (p.envs.take (keepN ⟨p.envs, z.prev, p.chs⟩)) z.prev = viewA p.envs z.prev
      have hzo := g.en n z hz
      have hk : z.prev ≤ (keepN ⟨p.envs, z.prev, p.chs⟩ : Int) := by
        show z.prev ≤ ((min (max (max z.prev (protV ⟨p.envs, z.prev, p.chs⟩)) 0) (p.envs.length : Int)).toNat : Int)
        have := hzo.2.1
        omega
      have hkl : keepN ⟨p.envs, z.prev, p.chs⟩ ≤ p.envs.length := keepN_le _
      exact viewA_take (k := keepN ⟨p.envs, z.prev, p.chs⟩) (by rw [List.take_take, Nat.min_self]) hk (by rw [List.length_take]; omega) hkl (g.enOk.take _)
/-- a list of the current environment is turned -/
theorem view_set {p : St} (g : Good p) {n : Nat} {z : En} (he : p.e = (n : Int) + 1) (hz : p.envs[n]? = some z) {y : List Cl} (hy : y.length ≤ 4096) : viewA (p.envs.set n { z with y := y }) p.e = ⟨0, z.id, z.pc, y⟩ :: viewA p.envs z.prev := by
  have hn := (List.getElem?_eq_some_iff.1 hz).1
  have hzo := g.en n z hz
  have hen : EnOk (p.envs.set n { z with y := y }) := g.enOk.set ⟨hzo.1, hzo.2.1, hzo.2.2.1, hy⟩
  rw [he, viewA_step hen (n := n) (x := { z with y := y }) (by rw [List.getElem?_set_self hn])]
  congr 1
  exact viewA_take (k := n) (by rw [List.take_set_of_le (Nat.le_refl _)]) hzo.2.1 (by rw [List.length_set]; omega) (by omega) hen
theorem view_trim {p : St} (g : Good p) {t : Int} (h : errOf (trimV p t) = 0) : ∃ (z : En) (rest : List En) (m : Nat), viewV p = ⟨0, z.id, z.pc, z.y⟩ :: rest ∧ t ≤ m ∧ m ≤ z.y.length ∧ viewV (stOf p (trimV p t)) = ⟨0, z.id, z.pc, z.y.take m⟩ :: rest := by
  unfold trimV at h ⊢
  cases hc : curN p with
  | none => rw [hc] at h; cases h
  | some n =>
    rw [hc] at h
    obtain ⟨he, hn⟩ := curN_some hc
    cases hz : p.envs[n]? with
    | none => simp only [hz] at h; cases h
    | some z =>
      simp only [hz] at h ⊢
      have hzo := g.en n z hz
      split
      · rename_i hb; rw [if_pos hb] at h; cases h
      · rename_i hb
        split
        · rename_i hp
          refine ⟨z, viewA p.envs z.prev, t.toNat, view_cur g he hz, by omega, by omega, ?_⟩
          exact view_set g he hz (by rw [List.length_take]; have := hzo.2.2.2; omega)
        · refine ⟨z, viewA p.envs z.prev, z.y.length, view_cur g he hz, by omega, Nat.le_refl _, ?_⟩
          rw [List.take_length]
          exact view_cur g he hz
theorem view_get {p : St} (g : Good p) {y : Int} (h : errOf (getV p y) = 0) : ∃ (z : En) (rest : List En), viewV p = ⟨0, z.id, z.pc, z.y⟩ :: rest ∧ 1 ≤ y ∧ y ≤ z.y.length ∧ z.y[(y - 1).toNat]? = some (geC (getV p y)) := by
  unfold getV at h ⊢
  cases hc : curN p with
  | none => rw [hc] at h; cases h
  | some n =>
    rw [hc] at h
    obtain ⟨he, hn⟩ := curN_some hc
    cases hz : p.envs[n]? with
    | none => simp only [hz] at h; cases h
    | some z =>
      simp only [hz] at h ⊢
      split
      · rename_i hb; rw [if_pos hb] at h; cases h
      · rename_i hb
        rw [if_neg hb] at h
        cases hy : z.y[(y - 1).toNat]? with
        | none => rw [hy] at h; cases h
        | some c => exact ⟨z, viewA p.envs z.prev, view_cur g he hz, by omega, by omega, hy⟩
theorem view_sety {p : St} (g : Good p) {y : Int} {c : Cl} (h : errOf (setV p y c) = 0) : ∃ (z : En) (rest : List En), viewV p = ⟨0, z.id, z.pc, z.y⟩ :: rest ∧ 1 ≤ y ∧ y ≤ z.y.length ∧ viewV (stOf p (setV p y c)) = ⟨0, z.id, z.pc, z.y.set (y - 1).toNat c⟩ :: rest := by
  unfold setV at h ⊢
  cases hc : curN p with
  | none => rw [hc] at h; cases h
  | some n =>
    rw [hc] at h
    obtain ⟨he, hn⟩ := curN_some hc
    cases hz : p.envs[n]? with
    | none => simp only [hz] at h; cases h
    | some z =>
      simp only [hz] at h ⊢
      have hzo := g.en n z hz
      have hyl : (z.y.set (y - 1).toNat c).length ≤ 4096 := by rw [List.length_set]; exact hzo.2.2.2
      split
      · rename_i hb; rw [if_pos hb] at h; cases h
      · rename_i hb
        rw [if_neg hb] at h
        refine ⟨z, viewA p.envs z.prev, view_cur g he hz, by omega, by omega, ?_⟩
        split
        · exact view_set g he hz hyl
        · rename_i hp
          rw [if_neg hp] at h
          split
          · rename_i hf; rw [if_pos hf] at h; cases h
          · show viewA (p.envs.take (keepN p) ++ [_]) ((keepN p : Int) + 1) = _
            rw [g.keep, List.take_length]
            have hen : EnOk (p.envs ++ [{ z with y := z.y.set (y - 1).toNat c }]) := g.enOk.app ⟨hzo.1, by show z.prev ≤ _; have := hzo.2.1; omega, hzo.2.2.1, hyl⟩
            rw [viewA_step hen (n := p.envs.length) (x := { z with y := z.y.set (y - 1).toNat c }) (by rw [List.getElem?_append_right (Nat.le_refl _), Nat.sub_self]; rfl)]
            congr 1
            exact viewA_take (k := p.envs.length) (by rw [List.take_left, List.take_length]) (by show z.prev ≤ _; have := hzo.2.1; omega) (by rw [List.length_append]; omega) (Nat.le_refl _) hen
theorem view_push {p : St} {x : Ch} : viewV (stOf p (pushV p x)) = viewV p := by
  unfold pushV
  split <;> rfl
theorem view_drop {p : St} (g : Good p) {e : Int} (he : e ≤ p.envs.length) (C : List Ch) : viewV (dropV ⟨p.envs, e, C⟩) = viewA p.envs e := by
  show viewA (p.envs.take (keepN ⟨p.envs, e, C⟩)) e = viewA p.envs e
  have hk : e ≤ (keepN ⟨p.envs, e, C⟩ : Int) := by
    show e ≤ ((min (max (max e (protV ⟨p.envs, e, C⟩)) 0) (p.envs.length : Int)).toNat : Int)
    omega
  have hkl : keepN ⟨p.envs, e, C⟩ ≤ p.envs.length := keepN_le _
  exact viewA_take (k := keepN ⟨p.envs, e, C⟩) (by rw [List.take_take, Nat.min_self]) hk (by rw [List.length_take]; omega) hkl (g.enOk.take _)
theorem view_cut {p : St} (g : Good p) {n : Int} (h : errOf (cutV p n) = 0) : 0 ≤ n ∧ n ≤ p.chs.length ∧ viewV (stOf p (cutV p n)) = viewV p ∧ (stOf p (cutV p n)).chs = p.chs.take n.toNat := by
  unfold cutV at h ⊢
  split
  · rename_i hb; rw [if_pos hb] at h; cases h
  · have hlen := g.high
    exact ⟨by omega, by omega, view_drop g (by omega) _, rfl⟩
theorem view_pop {p : St} (g : Good p) (h : errOf (popR p) = 0) : ∃ c, p.chs[p.chs.length - 1]? = some c ∧ 0 < p.chs.length ∧ viewV (popS p (popR p)) = viewA p.envs c.env ∧ (popS p (popR p)).chs = p.chs.take (p.chs.length - 1) := by
  unfold popR at h ⊢
  rcases hch : p.chs.getLast? with _ | c
  · rw [hch] at h; cases h
  · have hx : p.chs[p.chs.length - 1]? = some c := by rw [List.getLast?_eq_getElem?] at hch; exact hch
    obtain ⟨c0, c1⟩ := g.ch _ _ hx
    have hpc : protV p = c.envs := by unfold protV; rw [hch]
    have hlen := g.high
    refine ⟨c, hx, ?_, view_drop g (by omega) _, rfl⟩
    have := (List.getElem?_eq_some_iff.1 hx).1
    omega
/-- a choice point that a call leaves keeps its view -/
theorem view_kept {p : St} (g : Good p) {i : Nat} {c : Ch} (hi : p.chs[i]? = some c) (x : Sp) (h6 : x.what = 6 → i + 1 < p.chs.length) (h7 : x.what = 7 → (i : Int) + 1 ≤ x.n) :
    (doV p x).1.chs[i]? = some c ∧ viewA (doV p x).1.envs c.env = viewA p.envs c.env := by
  have hil := (List.getElem?_eq_some_iff.1 hi).1
  obtain ⟨c0, c1⟩ := g.ch i c hi
  have hh : highAt p.chs (i + 1) = c.envs := g.chOk.high hi
  have hle : c.envs ≤ protV p := by rw [protV_high, ← hh]; exact g.chOk.mono (by omega) (Nat.le_refl _)
  have hlen := g.high
  have hCl : (p.chs.take (i + 1)).length = i + 1 := by rw [List.length_take]; omega
  have hEl : (p.envs.take c.envs.toNat).length = c.envs.toNat := by rw [List.length_take]; omega
  have hd := held_do (E := p.envs.take c.envs.toNat) (C := p.chs.take (i + 1)) (p := p) ⟨g, by unfold Pre; rw [hEl], by unfold Pre; rw [hCl]⟩ (by rw [hCl, hEl, high_take _ (Nat.le_refl _), hh]; omega) x (fun h => by rw [hCl]; exact h6 h) (fun h => by rw [hCl]; have := h7 h; omega)
  refine ⟨hd.chs.at (by rw [List.getElem?_take, if_pos (by omega)]; exact hi), ?_⟩
  have h1 := hd.envs
  have hl := hd.envs.len
  unfold Pre at h1
  rw [hEl] at h1 hl
  exact viewA_take (k := c.envs.toNat) h1 (by omega) hl (by omega) hd.good.en
end Go.Proofs.Ytpkpffnabcgcbaa
