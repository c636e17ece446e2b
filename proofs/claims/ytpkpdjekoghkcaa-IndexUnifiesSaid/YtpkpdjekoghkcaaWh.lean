/-
  Walk: slices.Clone at numbers.
-/
import Derived.Test.YtpkpdjekoghkcaaWb
import Derived.Test.YtpkpdjekoghkcaaFam
import Derived.Maps.AppendAt
namespace Go.Proofs.Ytpkpdjekoghkcaa
open Go.RowKit
theorem slice_nil (A : Option Addr) (n c : Nat) (w : World) : (binOp .eql 23 (.slice A n c) (.slice none 0 0)).run Try.prog w = .ok (.bool A.isNone) w := by
  cases A with
  | none => kernel_rfl
  | some a => kernel_rfl

set_option maxHeartbeats 1000000 in
theorem clone_any (A : Option Addr) (n c : Nat) (l : List Int) (w : World) (hn : n ≤ 1048576) (ha : IntsAt w w.heap.size A n l) :
    Calls Try.prog 40 #[.slice A n c] w fun e w' => (∃ v, e = .returned v ∧ w'.ownsRow w.heap.size 3 1 v n (l.map (.int .i64))) ∧ Below w.heap.size w w' := by
  obtain ⟨i0, hi, hz0, hz1, hz2⟩ := info_parts info3
  have hnil := slice_nil
  have hcells : ∀ ad, A = some ad → ∀ j u, (l.map (Value.int .i64))[j]? = some u → w.cell? (ad.add j) = some u := by
    rintro ad rfl j u hj
    have hjl : j < n := by have := (List.getElem?_eq_some_iff.1 hj).1; have := ha.1.1; simp at *; omega
    obtain ⟨b, off, x, e, -, hx, hc⟩ := ha.at hjl
    injection e with e
    subst e
    rw [List.getElem?_map, hx] at hj
    simp at hj
    subst hj
    unfold Addr.add
    by_cases h0 : j = 0
    · subst h0; simpa using hc
    · simpa [h0] using hc
  cases A with
  | none =>
    have h0 : n = 0 := by
      rcases Nat.eq_zero_or_pos n with h | h
      · exact h
      · obtain ⟨b, off, e, _⟩ := ha.2 h; cases e
    subst h0
    have hl : l = [] := List.eq_nil_of_length_eq_zero ha.1.1
    subst hl
    go_enter Try.func40, Try.ntmps40
    go_wp2
    go_ret
    exact ⟨⟨_, rfl, World.ownsRow_nil _ _ _ _⟩, Below.refl _ _⟩
  | some ad =>
    have HC := Lib.hid (hcells ad rfl)
    have hll := ha.1.1
    clear hcells
    go_enter Try.func40, Try.ntmps40
    go_wp2_with (at_builtin; refine wpList_append_own_at _ rfl (.tmp 5) (.tmp 6) 23 rfl w.heap.size 3 i0 _ 1 8 Try.underlying23 hi hz0 hz1 hz2 rfl (by decide) _ 0 [] rfl (World.ownsRow_made w #[] 0 (Nat.le_refl _) (by decide) rfl) ad n c (l.map (.int .i64)) rfl ?c1 ?c2 ?c3 ?c4 ?c5 ?c6 ?_)
    case c1 => simp [hll]
    case c2 => exact fun j u h => cell_later (bAlloc w _) (HC.out j u h)
    case c3 => exact ints_one l
    case c4 => unfold maxLen; omega
    case c5 => omega
    case c6 => simp
    intro v w2 hown hg _ hat
    have hb : Below w.heap.size w w2 := (bAlloc w _).grown hg (by simp) (fun k hk => by simp [Value.ownBlock] at hk; omega)
    obtain ⟨A2, c2, e2⟩ := own_form hown
    rw [e2] at hown ⊢
    have HB := Lib.hid hb
    have HO := Lib.hid hown
    clear hb hg hat hown
    go_wp2_with fail
    go_ret
    exact ⟨⟨_, rfl, by simpa using HO.out⟩, HB.out⟩
end Go.Proofs.Ytpkpdjekoghkcaa
