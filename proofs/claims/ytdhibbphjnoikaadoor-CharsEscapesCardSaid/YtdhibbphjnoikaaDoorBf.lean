/-
  Laws: an append of pairs. The walks of both Clones.
-/
import Derived.Test.YtdhibbphjnoikaaDoorBe
import Derived.Maps.AppendAt
import Derived.Laws.OwnMore
import Derived.OwnWalk
namespace Go.Proofs.YtdhibbphjnoikaaDoor
open Go.RowKit
theorem info41 : (Tryd.prog.info? 41).map (fun i => (i.zero, i.size, i.bytes)) = some (some (.agg #[.int .i64 0, .int .i64 0]), 2, 16) := by kernel_rfl
theorem own_below {w w' : World} {base size n : Nat} {e : TypeId} {v : Value} {xs : List Value} (h : w.ownsRow base e size v n xs) (hb : Below w.heap.size w w') : w'.ownsRow base e size v n xs := by
  refine ⟨h.1, ?_⟩
  rcases h.2 with h2 | ⟨g, cap, cur, hv, hg, hh, r⟩
  · exact .inl h2
  · exact .inr ⟨g, cap, cur, hv, hg, (hb.block g (h.lt g (by rw [hv]; rfl)).2).trans hh, r⟩
theorem own_base {w : World} {base base' size n : Nat} {e : TypeId} {v : Value} {xs : List Value} (h : w.ownsRow base e size v n xs) (hb : base' ≤ base) : w.ownsRow base' e size v n xs := by
  refine ⟨h.1, ?_⟩
  rcases h.2 with h2 | ⟨g, cap, cur, hv, hg, hh, r⟩
  · exact .inl h2
  · exact .inr ⟨g, cap, cur, hv, Nat.le_trans hb hg, hh, r⟩
theorem bGrown {B : Nat} {a w w' : World} {base size n : Nat} {e : TypeId} {v : Value} {xs : List Value} (h : Below B a w) (ho : w.ownsRow base e size v n xs) (hg : w.grownBy w' v.ownBlock) (hB : B ≤ w.heap.size) (hb : B ≤ base) : Below B a w' :=
  h.grown hg hB (fun k hk => Nat.le_trans hb (ho.lt k hk).1)
/-- an owned row of pairs is a slice that reads as the list -/
theorem own_pairs {w : World} {base n : Nat} {v : Value} {l : Tab} (h : w.ownsRow base 41 2 v n (pairCs l)) (hm : n ≤ 281474976710656) :
    ∃ A c, v = .slice A n c ∧ PairsAt w w.heap.size A n l ∧ (A = none → c = 0) ∧ n ≤ c := by
  have hn : l.length = n := by have := h.1; rw [pairCs_len] at this; omega
  rcases h.2 with ⟨rfl, rfl⟩ | ⟨g, cap, cur, rfl, hg, hh, h1, h2, h3, h4⟩
  · exact ⟨none, 0, rfl, ⟨⟨hn, hm⟩, fun h => absurd h (by omega)⟩, fun _ => rfl, Nat.le_refl _⟩
  · refine ⟨_, _, rfl, ⟨⟨hn, hm⟩, fun _ => ⟨g, 0, rfl, (h.lt g rfl).2, fun i x hx => ?_⟩⟩, fun e => (by cases e), h1⟩
    obtain ⟨r0, r1⟩ := pairCs_at hx
    have c0 := h.cells (g := g) rfl _ _ r0
    have c1 := h.cells (g := g) rfl _ _ r1
    rw [add_plain] at c0 c1
    exact ⟨c0, by rw [Nat.add_assoc]; exact c1⟩
theorem wpList_append_pairs {w : World} {ops : Array Oper} {rest : List Oper} {o : Oper} {a : Act} {Q : Exit → Act → World → Prop} (hgd : o.guard = none) (s x : Operand)
    (ho : o.op = .call { callee := .builtin .append, args := #[s, x], argTypes := #[22, 22] }) (base : Nat) (v : Value) (n : Nat) (xs : List Value) (hs : a.eval s = v) (hown : w.ownsRow base 41 2 v n xs)
    (A : Option Addr) (m c B : Nat) (L : Tab) (hx : a.eval x = .slice A m c) (hnil : A = none → c = 0) (hL : PairsAt w B A m L) (hn : (n + m) * 16 ≤ 140737488355328) (hbase : base ≤ w.heap.size)
    (h : ∀ v' w', w'.ownsRow base 41 2 v' (n + m) (xs ++ pairCs L) → w.grownBy w' v.ownBlock → wpList Tryd.prog ops Q rest (a.put o.dst v') w') : wpList Tryd.prog ops Q (o :: rest) a w := by
  obtain ⟨i0, hi, hz0, hz1, hz2⟩ := info_parts info41
  cases A with
  | some ad =>
    refine wpList_append_own w hgd s x 22 ho base 41 i0 _ 2 16 Tryd.underlying22 hi hz0 hz1 hz2 rfl (by decide) v n xs hs hown ad m c (pairCs L) hx (by rw [pairCs_len, hL.1.1]) (pairs_cells hL) (pairs_one L) (by unfold maxLen; omega) hn hbase ?_
    intro v' w' h1 h2 _
    exact h v' w' h1 h2
  | none =>
    have hc := hnil rfl
    have hm : m = 0 := by
      rcases Nat.eq_zero_or_pos m with h0 | h0
      · exact h0
      · obtain ⟨b, off, e, _⟩ := hL.2 h0; cases e
    subst hc hm
    have hl : L = [] := List.eq_nil_of_length_eq_zero hL.1.1
    subst hl
    have hrun := run_append_owned_none (P := Tryd.prog) w base 22 o.type 41 i0 2 Tryd.underlying22 hi v n xs hown
    refine wpList_plain hgd fun K hK => ?_
    unfold Oper.wp
    simp [execOp, ho, resolve, invoke, builtin, hs, hx, hrun, Result.andThen]
    exact hK _ _ (h _ _ (by simpa [pairCs] using hown) (World.grownBy.refl _ _))
theorem slice_nil (A : Option Addr) (n c : Nat) (w : World) : (binOp .eql 22 (.slice A n c) (.slice none 0 0)).run Tryd.prog w = .ok (.bool A.isNone) w := by
  cases A with
  | none => kernel_rfl
  | some a => kernel_rfl
set_option maxHeartbeats 1000000 in
theorem clone_any (A : Option Addr) (n c : Nat) (l : Tab) (w : World) (hn : n * 16 ≤ 140737488355328) (ha : PairsAt w w.heap.size A n l) :
    Calls Tryd.prog 29 #[.slice A n c] w fun e w' => (∃ v, e = .returned v ∧ w'.ownsRow w.heap.size 41 2 v n (pairCs l)) ∧ Below w.heap.size w w' := by
  have hnil := slice_nil
  cases A with
  | none =>
    have h0 : n = 0 := by
      rcases Nat.eq_zero_or_pos n with h | h
      · exact h
      · obtain ⟨b, off, e, _⟩ := ha.2 h; cases e
    subst h0
    have hl : l = [] := List.eq_nil_of_length_eq_zero ha.1.1
    subst hl
    go_enter Tryd.func29, Tryd.ntmps29
    go_wp2
    go_ret
    exact ⟨⟨_, rfl, World.ownsRow_nil _ _ _ _⟩, Below.refl _ _⟩
  | some ad =>
    have HA := Lib.hid (ha.below (bAlloc w (.cells #[] 41)))
    clear ha
    go_enter Tryd.func29, Tryd.ntmps29
    go_wp2_with (at_builtin; refine wpList_append_pairs rfl _ _ rfl w.heap.size _ 0 [] rfl (World.ownsRow_made w #[] 0 (Nat.le_refl _) (by decide) rfl) (some ad) n c w.heap.size l rfl (fun e => by cases e) HA.out ?c1 ?c2 ?_)
    case c1 => omega
    case c2 => simp
    intro v w2 hown hg
    have hb : Below w.heap.size w w2 := (bAlloc w _).grown hg (by simp) (fun k hk => by simp [Value.ownBlock] at hk; omega)
    obtain ⟨A2, c2, e2, _⟩ := own_pairs (by simpa using hown) (by omega)
    rw [e2] at hown ⊢
    have HB := Lib.hid hb
    have HO := Lib.hid hown
    clear hb hg hown
    go_wp2_with fail
    go_ret
    exact ⟨⟨_, rfl, by simpa using HO.out⟩, HB.out⟩
end Go.Proofs.YtdhibbphjnoikaaDoor
