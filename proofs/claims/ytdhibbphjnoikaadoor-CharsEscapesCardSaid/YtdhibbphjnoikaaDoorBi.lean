/-
  The walk of Same.
-/
import Derived.Test.YtdhibbphjnoikaaDoorBh
namespace Go.Proofs.YtdhibbphjnoikaaDoor
open Go.RowKit
def eqP (a b a' b' : Int) : Bool := a == a' && b == b'
theorem eqP_iff {x y : Int × Int} : eqP x.1 x.2 y.1 y.2 = true ↔ x = y := by
  unfold eqP
  obtain ⟨a, b⟩ := x
  obtain ⟨c, d⟩ := y
  simp
theorem pair_neq (a b a' b' : Int) (w : World) : (binOp .neq 41 (.agg #[.int .i64 a, .int .i64 b]) (.agg #[.int .i64 a', .int .i64 b'])).run Tryd.prog w = .ok (.bool (!eqP a b a' b')) w := by
  unfold eqP
  go_simp
  by_cases h1 : a = a' <;> by_cases h2 : b = b' <;> simp [h1, h2]
theorem same_upto {l l' : Tab} (hl : l.length = l'.length) (h : ∀ j, j < l.length → l.getD j (0, 0) = l'.getD j (0, 0)) : l = l' := by
  refine List.ext_getElem hl fun i h1 h2 => ?_
  have := h i h1
  rwa [List.getD_eq_getElem?_getD, List.getD_eq_getElem?_getD, List.getElem?_eq_getElem h1, List.getElem?_eq_getElem h2] at this
set_option maxHeartbeats 1000000 in
theorem same_any (A A' : Option Addr) (n n' c c' : Nat) (l l' : Tab) (w : World) (h : PairsAt w w.heap.size A n l) (h' : PairsAt w w.heap.size A' n' l') :
    Calls Tryd.prog 18 #[.slice A n c, .slice A' n' c'] w fun e w' => e = .returned (.bool (decide (l = l'))) ∧ Below w.heap.size w w' := by
  have hn := h.1.2
  have hn' := h'.1.2
  have hl := h.len
  have hl' := h'.len
  have HA := Lib.hid h
  have HA' := Lib.hid h'
  have hne := pair_neq
  clear h h'
  by_cases hnn : n = n'
  · subst hnn
    go_enter Tryd.func18, Tryd.ntmps18
    go_wp2_with fail
    go_loopw [5] (fun i wr => ∃ k : Nat, k ≤ n ∧ i = .int .i64 (k : Int) ∧ Hid (∀ j, j < k → l.getD j (0, 0) = l'.getD j (0, 0)) ∧ Hid (Below w.heap.size w wr)) (fun i _ => n - (intOf i).toNat)
    case atStart => exact ⟨0, by omega, rfl, Lib.hid fun _ h => absurd h (by omega), Lib.hid (Below.refl _ _)⟩
    case round =>
      obtain ⟨k, hk, rfl, HP, HW⟩ := hrel
      by_cases hlt : k < n
      · obtain ⟨b, off, rfl, hB, hc⟩ := (HA.out.below HW.out).at hlt
        obtain ⟨c0, c1⟩ := hc
        obtain ⟨b', off', rfl, hB', hc'⟩ := (HA'.out.below HW.out).at hlt
        obtain ⟨d0, d1⟩ := hc'
        generalize hx : l.getD k (0, 0) = x at *
        generalize hy : l'.getD k (0, 0) = y at *
        have HX := Lib.hid hx
        have HY := Lib.hid hy
        clear hx hy
        cases he : eqP x.1 x.2 y.1 y.2
        · have HF := Lib.hid (show false = decide (l = l') by
            symm; apply decide_eq_false
            rintro rfl
            rw [HX.out] at HY
            have := eqP_iff.2 HY.out
            rw [he] at this; cases this)
          go_wp2_with fail
          go_quiet (fail)
          go_wp2_with fail
          go_ret
          exact ⟨ret_bool HF.out, bDrewN HW.out _⟩
        · have HF := Lib.hid (show l.getD k (0, 0) = l'.getD k (0, 0) by rw [HX.out, HY.out]; exact eqP_iff.1 he)
          go_wp2_with fail
          go_quiet (fail)
          go_wp2_with fail
          exact ⟨⟨k + 1, by omega, by go_num, Lib.hid fun j hj => by
            rcases Nat.lt_or_ge j k with h | h
            · exact HP.out j h
            · (obtain rfl : j = k := by omega); exact HF.out, Lib.hid (bDrewN HW.out _)⟩, by simp [intOf]; omega⟩
      · have HF := Lib.hid (show true = decide (l = l') by
          symm; apply decide_eq_true
          exact same_upto (by omega) (fun j hj => HP.out j (by omega)))
        go_wp2_with fail
        go_ret
        exact ⟨ret_bool HF.out, HW.out⟩
  · have HF := Lib.hid (show false = decide (l = l') by
      symm; apply decide_eq_false
      rintro rfl
      omega)
    go_enter Tryd.func18, Tryd.ntmps18
    go_wp2_with fail
    go_ret
    exact ⟨ret_bool HF.out, Below.refl _ _⟩
end Go.Proofs.YtdhibbphjnoikaaDoor
