/-
  A frame of many slots, written out at once.
-/
import Derived.Deep.LoopGhost
namespace Go.Proofs.Ytpkpffnabcgcbaa
open Go

/-- P of every list of n values more -/
def AllN (P : List Value → Prop) : Nat → List Value → Prop
  | 0, acc => P acc.reverse
  | n + 1, acc => ∀ u, AllN P n (u :: acc)
theorem allN {P : List Value → Prop} : ∀ (n : Nat) (acc tl : List Value), AllN P n acc → tl.length = n → P (acc.reverse ++ tl)
  | 0, acc, tl, h, hl => by
    rw [List.eq_nil_of_length_eq_zero hl, List.append_nil]
    exact h
  | n + 1, acc, [], _, hl => by cases hl
  | n + 1, acc, u :: tl, h, hl => by
    have h1 := allN n (u :: acc) tl (h u) (by simpa using hl)
    rw [List.reverse_cons, List.append_assoc] at h1
    exact h1
theorem all_of {P : List Value → Prop} (n : Nat) (h : AllN P n []) (tl : List Value) (hl : tl.length = n) : P tl := allN n [] tl h hl
end Go.Proofs.Ytpkpffnabcgcbaa
