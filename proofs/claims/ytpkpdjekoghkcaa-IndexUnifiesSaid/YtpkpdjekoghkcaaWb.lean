/-
  Walks: lists of numbers are compared, searched, copied; the numbers of the clauses that match a key.
-/
import Derived.Test.YtpkpdjekoghkcaaPlain
import Derived.BigQuiet
import Derived.Deep.QuietTactic
import Derived.StillTailTactics
import Derived.Lib.Hide
namespace Go.Proofs.Ytpkpdjekoghkcaa
open Go.RowKit
/-- lists are equal -/
def sameL (a b : List Int) : Bool := decide (a = b)

theorem sameL_len {a b : List Int} (h : a.length ≠ b.length) : sameL a b = false := by
  simp only [sameL, decide_eq_false_iff_not]; rintro rfl; exact h rfl
theorem sameL_ne {a b : List Int} {k : Nat} {x y : Int} (hx : a[k]? = some x) (hy : b[k]? = some y) (h : x ≠ y) : sameL a b = false := by
  simp only [sameL, decide_eq_false_iff_not]; rintro rfl; rw [hx] at hy; exact h (Option.some.inj hy)
theorem sameL_end {a b : List Int} {k n : Nat} (ha : a.length = n) (hb : b.length = n) (h : a.take k = b.take k) (hk : n ≤ k) : sameL a b = true := by
  rw [List.take_of_length_le (by omega), List.take_of_length_le (by omega)] at h
  simpa [sameL] using h
theorem take_next {α : Type} {a b : List α} {k : Nat} {x y : α} (h : a.take k = b.take k) (hx : a[k]? = some x) (hy : b[k]? = some y) (e : x = y) : a.take (k + 1) = b.take (k + 1) := by
  rw [List.take_add_one, List.take_add_one, h, hx, hy, e]

set_option maxHeartbeats 400000 in
theorem sameList_any (A B : Option Addr) (n m c d : Nat) (l r : List Int) (w : World) (ha : IntsAt w w.heap.size A n l) (hb : IntsAt w w.heap.size B m r) :
    Calls Try.prog 36 #[.slice A n c, .slice B m d] w fun e w' => e = .returned (.bool (sameL l r)) ∧ ∃ q, w' = w.drewN q := by
  have hn := ha.1.2
  have hm := hb.1.2
  by_cases hlr : n = m
  · subst hlr
    go_enter Try.func36, Try.ntmps36
    go_wp2
    go_loopw [4, 5] (fun _ i wr => ∃ k : Nat, k ≤ n ∧ i = .int .i64 k ∧ (∃ q, wr = w.drewN q) ∧ Hid (l.take k = r.take k)) (fun _ i _ => n - (intOf i).toNat)
    case atStart => exact ⟨0, by omega, rfl, ⟨0, rfl⟩, rfl⟩
    case round =>
      obtain ⟨k, hk, rfl, ⟨q, rfl⟩, HT⟩ := hrel
      by_cases hlt : k < n
      · obtain ⟨b, off, x, rfl, -, hx, h1⟩ := ha.at hlt
        obtain ⟨b', off', y, rfl, -, hy, h2⟩ := hb.at hlt
        have HX := Lib.hid hx
        have HY := Lib.hid hy
        clear hx hy ha hb
        go_wp2_with fail
        go_quiet (fail)
        go_wp2_with fail
        · rename_i hne
          go_ret
          exact ⟨ret_bool (sameL_ne HX.out HY.out (by simpa using hne)).symm, q + nq, by simp⟩
        · rename_i hne
          exact ⟨⟨k + 1, by omega, by go_num, ⟨_, rfl⟩, take_next HT.out HX.out HY.out (by simpa using hne)⟩, by simp [intOf]; omega⟩
      · go_wp2
        go_ret
        exact ⟨ret_bool (sameL_end ha.1.1 hb.1.1 HT.out (by omega)).symm, _, rfl⟩
  · have h0 : (((n : Int)) != (m : Int)) = true := by simp; omega
    go_enter Try.func36, Try.ntmps36
    go_wp2
    go_ret
    exact ⟨ret_bool (sameL_len (by rw [ha.1.1, hb.1.1]; exact hlr)).symm, 0, rfl⟩

set_option maxHeartbeats 400000 in
theorem same_any (A B : Option Addr) (n m c d : Nat) (l r : List Int) (w : World) (ha : IntsAt w w.heap.size A n l) (hb : IntsAt w w.heap.size B m r) :
    Calls Try.prog 17 #[.slice A n c, .slice B m d] w fun e w' => e = .returned (.bool (sameL l r)) ∧ ∃ q, w' = w.drewN q := by
  go_enter Try.func17, Try.ntmps17
  go_wp2_with fail
  refine (sameList_any A B n m c d l r _ ha hb).mono ?_
  rintro e w1 ⟨rfl, q, rfl⟩
  go_wp2_with fail
  go_ret
  exact ⟨rfl, q, rfl⟩

set_option maxHeartbeats 400000 in
theorem equal_any (A B : Option Addr) (n m c d : Nat) (l r : List Int) (w : World) (ha : IntsAt w w.heap.size A n l) (hb : IntsAt w w.heap.size B m r) :
    Calls Try.prog 50 #[.slice A n c, .slice B m d] w fun e w' => e = .returned (.bool (sameL l r)) ∧ ∃ q, w' = w.drewN q := by
  have hn := ha.1.2
  have hm := hb.1.2
  by_cases hlr : n = m
  · subst hlr
    go_enter Try.func50, Try.ntmps50
    go_wp2
    go_loopw [4, 5, 13] (fun _ _ i wr => ∃ k : Nat, k ≤ n ∧ i = .int .i64 k ∧ (∃ q, wr = w.drewN q) ∧ Hid (l.take k = r.take k)) (fun _ _ i _ => n - (intOf i).toNat)
    case atStart => exact ⟨0, by omega, rfl, ⟨0, rfl⟩, rfl⟩
    case round =>
      obtain ⟨k, hk, rfl, ⟨q, rfl⟩, HT⟩ := hrel
      by_cases hlt : k < n
      · obtain ⟨b, off, x, rfl, -, hx, h1⟩ := ha.at hlt
        obtain ⟨b', off', y, rfl, -, hy, h2⟩ := hb.at hlt
        have HX := Lib.hid hx
        have HY := Lib.hid hy
        clear hx hy ha hb
        go_wp2_with fail
        go_quiet (fail)
        go_wp2_with fail
        · rename_i hne
          go_ret
          exact ⟨ret_bool (sameL_ne HX.out HY.out (by simpa using hne)).symm, q + nq, by simp⟩
        · rename_i hne
          exact ⟨⟨k + 1, by omega, by go_num, ⟨_, rfl⟩, take_next HT.out HX.out HY.out (by simpa using hne)⟩, by simp [intOf]; omega⟩
      · go_wp2
        go_ret
        exact ⟨ret_bool (sameL_end ha.1.1 hb.1.1 HT.out (by omega)).symm, _, rfl⟩
  · have h0 : (((n : Int)) != (m : Int)) = true := by simp; omega
    go_enter Try.func50, Try.ntmps50
    go_wp2
    go_ret
    exact ⟨ret_bool (sameL_len (by rw [ha.1.1, hb.1.1]; exact hlr)).symm, 0, rfl⟩

/-- a list has a number -/
def hasL (l : List Int) (y : Int) : Bool := l.contains y
theorem hasL_yes {a : List Int} {x y : Int} {k : Nat} (hx : a[k]? = some x) (e : x = y) : hasL a y = true := by
  subst e; simpa [hasL] using List.mem_of_getElem? hx
theorem hasL_end {a : List Int} {y : Int} {k n : Nat} (ha : a.length = n) (h : hasL (a.take k) y = false) (hk : n ≤ k) : hasL a y = false := by
  rwa [List.take_of_length_le (by omega)] at h
theorem any_next {a : List Int} {x y : Int} {k : Nat} (h : hasL (a.take k) y = false) (hx : a[k]? = some x) (e : x ≠ y) : hasL (a.take (k + 1)) y = false := by
  unfold hasL at *
  rw [List.take_add_one, hx]
  simp at h ⊢
  exact ⟨h, fun e' => e e'.symm⟩
set_option maxHeartbeats 400000 in
theorem has_any (A : Option Addr) (n c : Nat) (l : List Int) (y : Int) (w : World) (ha : IntsAt w w.heap.size A n l) :
    Calls Try.prog 38 #[.slice A n c, .int .i64 y] w fun e w' => e = .returned (.bool (hasL l y)) ∧ w = w' := by
  have hn := ha.1.2
  go_enter Try.func38, Try.ntmps38
  go_wp2
  go_loop [4, 5] (fun _ i => ∃ k : Nat, k ≤ n ∧ i = .int .i64 k ∧ Hid (hasL (l.take k) y = false)) (fun _ i => n - (intOf i).toNat)
  case atStart => exact ⟨0, by omega, rfl, rfl⟩
  case round =>
    obtain ⟨k, hk, rfl, HT⟩ := hrel
    by_cases hlt : k < n
    · obtain ⟨b, off, x, rfl, -, hx, h1⟩ := ha.at hlt
      have HX := Lib.hid hx
      clear hx ha
      go_wp2_with fail
      · have he : (x == y) = true := by assumption
        go_ret
        exact ⟨ret_bool (hasL_yes HX.out (by simpa using he)).symm, rfl⟩
      · have he : (x == y) = false := by assumption
        exact ⟨⟨k + 1, by omega, by go_num, any_next HT.out HX.out (by simpa using he)⟩, by simp [intOf]; omega⟩
    · go_wp2
      go_ret
      exact ⟨ret_bool (hasL_end ha.1.1 HT.out (by omega)).symm, rfl⟩
theorem info3 : (Try.prog.info? 3).map (fun i => (i.zero, i.size, i.bytes)) = some (some (.int .i64 0), 1, 8) := by kernel_rfl

set_option maxHeartbeats 400000 in
theorem list_any (A : Option Addr) (n c : Nat) (ks : List K) (k : K) (w : World) (hn : n ≤ 1048576) (ha : KeysAt w w.heap.size A n ks) :
    Calls Try.prog 24 #[.slice A n c, k.v] w fun e w' => (∃ v, e = .returned v ∧ w'.ownsRow w.heap.size 3 1 v (listTo ks k n).length ((listTo ks k n).map (.int .i64))) ∧ Below w.heap.size w w' := by
  obtain ⟨i0, hi, hz0, hz1, hz2⟩ := info_parts info3
  have hk0 : KeysAt (w.alloc (.cells #[.int .i64 k.kind, .int .i64 k.n, .string k.name, .int .i64 k.ar] 35)) w.heap.size A n ks := ha.below (bAlloc _ _)
  go_enter Try.func24, Try.ntmps24
  go_wp2
  go_loopw [5, 6] (fun v i wr => ∃ j : Nat, j ≤ n ∧ i = .int .i64 j ∧ wr.ownsRow (w.heap.size + 1) 3 1 v (listTo ks k j).length ((listTo ks k j).map (.int .i64)) ∧ Below (w.heap.size + 1) (w.alloc (.cells #[.int .i64 k.kind, .int .i64 k.n, .string k.name, .int .i64 k.ar] 35)) wr) (fun _ i _ => n - (intOf i).toNat)
  case atStart => exact ⟨0, by omega, rfl, by rw [listTo_zero]; exact World.ownsRow_nil _ _ _ _, Below.refl _ _⟩
  case round =>
    obtain ⟨j, hj, rfl, hown, hb⟩ := hrel
    by_cases hlt : j < n
    · obtain ⟨b, off, x, rfl, hB, hx, hx4⟩ := (hk0.below (hb.mono (by omega))).at hlt
      obtain ⟨h1, h2, h3, h4⟩ := hx4.four
      obtain ⟨g1, g2, g3, g4⟩ := keyBox hb
      have HX := Lib.hid hx
      have hll := listTo_len ks k j
      have Hb := Lib.hid hb
      have HO := Lib.hid hown
      have hws : w.heap.size + 1 ≤ wr.heap.size := by simpa using hb.size
      clear hx hk0 ha hx4 hb hown
      go_wp2_with fail
      go_still_tail 5, (by kernel_rfl)
      go_wp2_with fail
      refine (matches_any x k _).mono ?_
      rintro e w1 ⟨rfl, hb1⟩
      clear h1 h2 h3 h4 g1 g2 g3 g4
      have hz := hb1.size
      have hb2 := Hb.out.drew.trans (hb1.mono hws)
      have hown := own_below (w := wr.drew) HO.out hb1
      have HB2 := Lib.hid hb2
      have HB1 := Lib.hid hb1
      clear hb1 hb2
      cases hm : matK x k
      · have HM := Lib.hid hm
        clear hm
        go_wp2_with fail
        exact ⟨⟨j + 1, by omega, by go_num, by rw [listTo_no HX.out HM.out]; exact hown, HB2.out⟩, by simp [intOf]; omega⟩
      · have HM := Lib.hid hm
        clear hm
        go_wp2_with (at_builtin; refine wpList_append_own _ rfl (.tmp 19) (.tmp 21) 23 rfl (w.heap.size + 1) 3 i0 (.int .i64 0) 1 8 Try.underlying23 hi hz0 hz1 hz2 rfl (by decide) _ _ _ rfl (hown.alloc _) ⟨w1.heap.size, 0, none⟩ 1 1 [.int .i64 (j : Int)] rfl rfl ?c1 ?c2 ?c3 ?c4 ?c5 ?_)
        case c1 => exact cell_one_new _ _ _
        case c2 => simp [Value.oneCell']
        case c3 => unfold maxLen; omega
        case c4 => omega
        case c5 => simp at hz ⊢; omega
        intro v' w3 hown' hg _
        have hB3 : Below (w.heap.size + 1) _ w3 := bGrown (HB2.out.alloc (by simp at hz; omega) _) (hown.alloc _) hg (by simp at hz ⊢; omega) (Nat.le_refl _)
        have HB3 := Lib.hid hB3
        have HO3 := Lib.hid hown'
        clear hB3 hg hown' hown
        go_wp2_with fail
        exact ⟨⟨j + 1, by omega, by go_num, by rw [listTo_yes HX.out HM.out, List.map_append, List.length_append]; exact HO3.out, HB3.out⟩, by simp [intOf]; omega⟩
    · go_wp2
      go_ret
      have hjn : j = n := by omega
      subst hjn
      exact ⟨⟨_, rfl, own_base hown (by omega)⟩, bStart (hb.mono (by simp))⟩
end Go.Proofs.Ytpkpdjekoghkcaa
