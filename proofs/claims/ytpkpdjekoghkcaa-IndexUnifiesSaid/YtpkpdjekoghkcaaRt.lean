/-
  Two operations may come up; a list of keys is appended.
-/
import Derived.Test.YtpkpdjekoghkcaaWq
import Derived.Test.YtpkpdjekoghkcaaRegN
import Derived.OwnWalk
import Derived.Maps.AppendAt
namespace Go.Proofs.Ytpkpdjekoghkcaa
open Go Go.RowKit

section
variable {P : Program} {ops : Array Oper} {Q : Exit → Act → World → Prop} {md : Region.Mode} {S : World → Prop} {need : Nat → Bool}
/-- one of two operations comes up -/
theorem wpAnyN_two {i j : Nat} {oi oj : Oper} {fuel : Nat} {listed : Array Bool} {a : Act} {w : World} (hr : Region.ready md ops listed = [i, j]) (hoi : ops[i]? = some oi) (hoj : ops[j]? = some oj)
    (h1 : ∀ K : Act → World → Prop, (∀ a w, (need i = true → S w) → wpAnyN P md ops Q S need fuel (listed.setIfInBounds i true) a w → K a w) → if Region.wanted oi (yielded ops a.tmps) = true then Oper.wp P oi a w K Q else K (a.put oi.dst undef) w)
    (h2 : ∀ K : Act → World → Prop, (∀ a w, (need j = true → S w) → wpAnyN P md ops Q S need fuel (listed.setIfInBounds j true) a w → K a w) → if Region.wanted oj (yielded ops a.tmps) = true then Oper.wp P oj a w K Q else K (a.put oj.dst undef) w) :
    wpAnyN P md ops Q S need (fuel + 1) listed a w := by
  refine ⟨fun h0 => absurd (hr ▸ h0) (by simp), fun k hk => ?_⟩
  rw [hr] at hk
  simp only [List.mem_cons, List.not_mem_nil, or_false] at hk
  rcases hk with rfl | rfl
  · exact wpOp_step hoi (fun K' hK => h1 K' (fun a w hS hW => hK a w ⟨hS, hW⟩))
  · exact wpOp_step hoj (fun K' hK => h2 K' (fun a w hS hW => hK a w ⟨hS, hW⟩))
end

theorem keyCs_div {l : List K} {j : Nat} {u : Value} (h : (keyCs l)[j]? = some u) : ∃ x, l[j / 4]? = some x := by
  have hj := (List.getElem?_eq_some_iff.1 h).1
  rw [keyCs_len] at hj
  exact ⟨_, List.getElem?_eq_getElem (by omega)⟩
theorem keys_cells {w : World} {B m : Nat} {ad : Addr} {L : List K} (h : KeysAt w B (some ad) m L) : ∀ j u, (keyCs L)[j]? = some u → w.cell? (ad.add j) = some u := by
  intro j u hu
  obtain ⟨x, hx⟩ := keyCs_div hu
  have hm : 0 < m := by have := (List.getElem?_eq_some_iff.1 hx).1; have := h.1.1; omega
  obtain ⟨b, off, e, -, hc⟩ := h.2 hm
  injection e with e
  subst e
  obtain ⟨r0, r1, r2, r3⟩ := keyCs_at hx
  obtain ⟨c0, c1, c2, c3⟩ := hc _ x hx
  have hadd : (Addr.mk b off none).add j = ⟨b, off + j, none⟩ := by
    unfold Addr.add
    by_cases hi : j = 0 <;> simp [hi]
  rw [hadd]
  have hmod : j % 4 = 0 ∨ j % 4 = 1 ∨ j % 4 = 2 ∨ j % 4 = 3 := by omega
  rcases hmod with hm | hm | hm | hm
  · rw [show j / 4 * 4 = j from by omega] at r0 c0; rw [c0, ← r0, hu]
  · rw [show j / 4 * 4 + 1 = j from by omega] at r1; rw [show off + j / 4 * 4 + 1 = off + j from by omega] at c1; rw [c1, ← r1, hu]
  · rw [show j / 4 * 4 + 2 = j from by omega] at r2; rw [show off + j / 4 * 4 + 2 = off + j from by omega] at c2; rw [c2, ← r2, hu]
  · rw [show j / 4 * 4 + 3 = j from by omega] at r3; rw [show off + j / 4 * 4 + 3 = off + j from by omega] at c3; rw [c3, ← r3, hu]
theorem keys_one (L : List K) : ∀ u ∈ keyCs L, u.oneCell' = true := by
  induction L with
  | nil => intro u hu; simp [keyCs] at hu
  | cons x t ih =>
    intro u hu
    simp only [keyCs, List.mem_cons] at hu
    rcases hu with rfl | rfl | rfl | rfl | hu
    · rfl
    · rfl
    · rfl
    · rfl
    · exact ih u hu
theorem wp_append_keys {w : World} {o : Oper} {a : Act} {K' : Act → World → Prop} {Q : Exit → Act → World → Prop} (s x : Operand)
    (ho : o.op = .call { callee := .builtin .append, args := #[s, x], argTypes := #[22, 22] }) (base : Nat) (v : Value) (n : Nat) (xs : List Value) (hs : a.eval s = v) (hown : w.ownsRow base 35 4 v n xs)
    (A : Option Addr) (m c B : Nat) (L : List K) (hx : a.eval x = .slice A m c) (hnil : A = none → c = 0) (hL : KeysAt w B A m L) (hn : n + m ≤ 1048576) (hbase : base ≤ w.heap.size)
    (h : ∀ v' w', w'.ownsRow base 35 4 v' (n + m) (xs ++ keyCs L) → w.grownBy w' v.ownBlock → K' (a.put o.dst v') w') : o.wp Try.prog a w K' Q := by
  obtain ⟨i0, hi, hz0, hz1, hz2⟩ := info_parts info35
  cases A with
  | some ad =>
    refine wp_append_own w s x 22 ho base 35 i0 _ 4 40 Try.underlying22 hi hz0 hz1 hz2 rfl (by decide) v n xs hs hown ad m c (keyCs L) hx (by rw [keyCs_len, hL.1.1]) (keys_cells hL) (keys_one L) (by unfold maxLen; omega) (by omega) hbase ?_
    intro v' w' h1 h2 _
    exact h v' w' h1 h2
  | none =>
    have hc := hnil rfl
    have hm : m = 0 := by
      rcases Nat.eq_zero_or_pos m with h0 | h0
      · exact h0
      · obtain ⟨b, off, e, _⟩ := hL.2 h0; cases e
    subst hc hm
    have hl : L = [] := List.eq_nil_of_length_eq_zero hL.1.1
    subst hl
    have hrun := run_append_owned_none (P := Try.prog) w base 22 o.type 35 i0 4 Try.underlying22 hi v n xs hown
    unfold Oper.wp
    simp [execOp, ho, resolve, invoke, builtin, hs, hx, hrun, Result.andThen]
    exact h _ _ (by simpa [keyCs] using hown) (World.grownBy.refl _ _)
end Go.Proofs.Ytpkpdjekoghkcaa
