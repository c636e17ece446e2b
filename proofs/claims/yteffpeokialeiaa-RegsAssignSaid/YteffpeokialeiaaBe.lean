/-
  Walks: the closure that changes a register.
-/
import Derived.Test.YteffpeokialeiaaBd
namespace Go.Proofs.Yteffpeokialeiaa
open Go.RowKit

set_option maxRecDepth 100000 in
set_option maxHeartbeats 1000000 in
theorem change_any (N0 g b j : Nat) (cs : Array Value) (num : List (Int × Int)) (z : Int) (w : World) (hN : Blk w N0 59 #[.map (some g)]) (hM : MapI w g (numF num)) (hb : Blk w b 23 cs) (hj : cs[j]? = some (.int .i64 z)) :
    Calls Try.prog 44 #[.pointer (some ⟨b, j, none⟩), .pointer (some ⟨N0, 0, none⟩)] w fun e w' => e = .returned (.tuple #[]) ∧
      (Blk w' b 23 (cs.setIfInBounds j (.int .i64 ((look num z).getD z))) ∧ w.grownBy w' (some b) ∧ w'.heap.size = w.heap.size) := by
  have c0 := hN.cell 0
  have c1 := (hb.cell j).trans hj
  have f1 := hb.frozen j
  have hlk := MapI.lookOk (w := w.drew) (g := g) (f := numF num) hM z
  have HB := Lib.hid hb
  have HJ := Lib.hid hj
  rw [numF_get, numF_some] at hlk
  clear hN hM hb hj
  cases hl : look num z with
  | none =>
    rw [hl] at hlk
    go_enter Try.func44, Try.ntmps44
    go_wp2_with fail
    go_region
    go_wp2_with fail
    go_end0
    have he : cs.setIfInBounds j (.int .i64 ((none : Option Int).getD z)) = cs := by
      apply Array.ext_getElem?
      intro i
      rw [Array.getElem?_setIfInBounds]
      split
      · rename_i e
        subst e
        rw [HJ.out]
        have := (Array.getElem?_eq_some_iff.1 HJ.out).1
        simp [this]
      · rfl
    rw [he]
    exact ⟨rfl, HB.out, ⟨rfl, rfl, rfl, Nat.le_refl _, fun _ _ _ => rfl⟩, rfl⟩
  | some n =>
    rw [hl] at hlk
    go_enter Try.func44, Try.ntmps44
    go_wp2_with fail
    go_region
    go_wp2_with fail
    go_end0
    have hb' : Blk w.drew b 23 cs := HB.out
    refine ⟨rfl, hb'.set_ j _, ⟨rfl, rfl, rfl, by simp, fun k _ hk => heap_setCell_other _ _ _ _ (fun e => hk (congrArg some e))⟩, by simp⟩
end Go.Proofs.Yteffpeokialeiaa
