/-
  The walks of Digit, both, and of among and Unescape, both.
-/
import Derived.Test.YtdhibbphjnoikaaDoorBi
import Derived.Test.YtdhibbphjnoikaaDoorSh
namespace Go.Proofs.YtdhibbphjnoikaaDoor
open Go.RowKit
def dgI (c : Int) : Int := if 48 ≤ c ∧ c ≤ 57 then c - 48 else if 97 ≤ c ∧ c ≤ 122 then c - 87 else if 65 ≤ c ∧ c ≤ 90 then c - 55 else -1
def digS (c base : Int) : Int × Bool := if base < 2 ∨ 36 < base ∨ dgI c < 0 ∨ base ≤ dgI c then (0, false) else (dgI c, true)
theorem ret_dig {a : Int} {b : Bool} {x : Int × Bool} (h : x = (a, b)) : Ending.returned (.tuple #[.int .i64 a, .bool b]) = .returned (.tuple #[.int .i64 x.1, .bool x.2]) := by rw [h]
theorem dig_no {c b : Int} (h : b < 2 ∨ 36 < b ∨ dgI c < 0 ∨ b ≤ dgI c) : digS c b = (0, false) := if_pos h
theorem dig_yes {c b v : Int} (hv : dgI c = v) (h : ¬ (b < 2 ∨ 36 < b ∨ v < 0 ∨ b ≤ v)) : digS c b = (v, true) := by unfold digS; rw [hv, if_neg h]
theorem dg_cases (c : Int) : (c < 48 ∧ dgI c = -1) ∨ (48 ≤ c ∧ c ≤ 57 ∧ dgI c = c - 48) ∨ (57 < c ∧ c < 65 ∧ dgI c = -1) ∨ (65 ≤ c ∧ c ≤ 90 ∧ dgI c = c - 55) ∨ (90 < c ∧ c < 97 ∧ dgI c = -1) ∨ (97 ≤ c ∧ c ≤ 122 ∧ dgI c = c - 87) ∨ (122 < c ∧ dgI c = -1) := by
  unfold dgI
  split
  · omega
  · split
    · omega
    · split <;> omega
set_option maxHeartbeats 1000000 in
theorem digit_any (c b : Int) (w : World) : Calls Tryd.prog 20 #[.int .i64 c, .int .i64 b] w fun e w' => e = .returned (.tuple #[.int .i64 (digS c b).1, .bool (digS c b).2]) ∧ w = w' := by
  have hd := dg_cases c
  by_cases h1 : b < 2
  · have HE := Lib.hid (dig_no (c := c) (.inl h1))
    clear hd
    go_enter Tryd.func20, Tryd.ntmps20
    go_wp2
    all_goals (go_ret2; exact ⟨ret_dig HE.out, rfl⟩)
  by_cases h2 : 36 < b
  · have HE := Lib.hid (dig_no (c := c) (.inr (.inl h2)))
    clear hd
    go_enter Tryd.func20, Tryd.ntmps20
    go_wp2
    all_goals (go_ret2; exact ⟨ret_dig HE.out, rfl⟩)
  have b1 : 2 ≤ b := by omega
  have b2 : b ≤ 36 := by omega
  clear h1 h2
  rcases hd with ⟨h, hv⟩ | ⟨h, h', hv⟩ | ⟨h, h', hv⟩ | ⟨h, h', hv⟩ | ⟨h, h', hv⟩ | ⟨h, h', hv⟩ | ⟨h, hv⟩
  · have HE := Lib.hid (dig_no (c := c) (b := b) (.inr (.inr (.inl (by omega)))))
    clear hv
    go_enter Tryd.func20, Tryd.ntmps20
    go_wp2
    all_goals (go_ret2; exact ⟨ret_dig HE.out, rfl⟩)
  · by_cases h3 : b ≤ c - 48
    · have HE := Lib.hid (dig_no (c := c) (b := b) (.inr (.inr (.inr (by omega)))))
      clear hv
      go_enter Tryd.func20, Tryd.ntmps20
      go_wp2
      all_goals (go_ret2; exact ⟨ret_dig HE.out, rfl⟩)
    · have HE := Lib.hid (dig_yes (b := b) hv (by omega))
      have h4 : c - 48 < b := by omega
      clear hv h3
      go_enter Tryd.func20, Tryd.ntmps20
      go_wp2
      all_goals (go_ret2; exact ⟨ret_dig (HE.out.trans (by first | rfl | (congr 1; omega))), rfl⟩)
  · have HE := Lib.hid (dig_no (c := c) (b := b) (.inr (.inr (.inl (by omega)))))
    clear hv
    go_enter Tryd.func20, Tryd.ntmps20
    go_wp2
    all_goals (go_ret2; exact ⟨ret_dig HE.out, rfl⟩)
  · by_cases h3 : b ≤ c - 55
    · have HE := Lib.hid (dig_no (c := c) (b := b) (.inr (.inr (.inr (by omega)))))
      clear hv
      go_enter Tryd.func20, Tryd.ntmps20
      go_wp2
      all_goals (go_ret2; exact ⟨ret_dig HE.out, rfl⟩)
    · have HE := Lib.hid (dig_yes (b := b) hv (by omega))
      have h4 : c - 55 < b := by omega
      clear hv h3
      go_enter Tryd.func20, Tryd.ntmps20
      go_wp2
      all_goals (go_ret2; exact ⟨ret_dig (HE.out.trans (by first | rfl | (congr 1; omega))), rfl⟩)
  · have HE := Lib.hid (dig_no (c := c) (b := b) (.inr (.inr (.inl (by omega)))))
    clear hv
    go_enter Tryd.func20, Tryd.ntmps20
    go_wp2
    all_goals (go_ret2; exact ⟨ret_dig HE.out, rfl⟩)
  · by_cases h3 : b ≤ c - 87
    · have HE := Lib.hid (dig_no (c := c) (b := b) (.inr (.inr (.inr (by omega)))))
      clear hv
      go_enter Tryd.func20, Tryd.ntmps20
      go_wp2
      all_goals (go_ret2; exact ⟨ret_dig HE.out, rfl⟩)
    · have HE := Lib.hid (dig_yes (b := b) hv (by omega))
      have h4 : c - 87 < b := by omega
      clear hv h3
      go_enter Tryd.func20, Tryd.ntmps20
      go_wp2
      all_goals (go_ret2; exact ⟨ret_dig (HE.out.trans (by first | rfl | (congr 1; omega))), rfl⟩)
  · have HE := Lib.hid (dig_no (c := c) (b := b) (.inr (.inr (.inl (by omega)))))
    clear hv
    go_enter Tryd.func20, Tryd.ntmps20
    go_wp2
    all_goals (go_ret2; exact ⟨ret_dig HE.out, rfl⟩)
set_option maxHeartbeats 1000000 in
theorem rdigit_any (c b : Int) (w : World) : Calls Tryd.prog 23 #[.int .i64 c, .int .i64 b] w fun e w' => e = .returned (.tuple #[.int .i64 (digS c b).1, .bool (digS c b).2]) ∧ w = w' := by
  have hd := dg_cases c
  by_cases h1 : b < 2
  · have HE := Lib.hid (dig_no (c := c) (.inl h1))
    clear hd
    go_enter Tryd.func23, Tryd.ntmps23
    go_wp2
    all_goals (go_ret2; exact ⟨ret_dig HE.out, rfl⟩)
  by_cases h2 : 36 < b
  · have HE := Lib.hid (dig_no (c := c) (.inr (.inl h2)))
    clear hd
    go_enter Tryd.func23, Tryd.ntmps23
    go_wp2
    all_goals (go_ret2; exact ⟨ret_dig HE.out, rfl⟩)
  have b1 : 2 ≤ b := by omega
  have b2 : b ≤ 36 := by omega
  clear h1 h2
  rcases hd with ⟨h, hv⟩ | ⟨h, h', hv⟩ | ⟨h, h', hv⟩ | ⟨h, h', hv⟩ | ⟨h, h', hv⟩ | ⟨h, h', hv⟩ | ⟨h, hv⟩
  · have HE := Lib.hid (dig_no (c := c) (b := b) (.inr (.inr (.inl (by omega)))))
    clear hv
    go_enter Tryd.func23, Tryd.ntmps23
    go_wp2
    all_goals (go_ret2; exact ⟨ret_dig HE.out, rfl⟩)
  · by_cases h3 : b ≤ c - 48
    · have HE := Lib.hid (dig_no (c := c) (b := b) (.inr (.inr (.inr (by omega)))))
      clear hv
      go_enter Tryd.func23, Tryd.ntmps23
      go_wp2
      all_goals (go_ret2; exact ⟨ret_dig HE.out, rfl⟩)
    · have HE := Lib.hid (dig_yes (b := b) hv (by omega))
      have h4 : c - 48 < b := by omega
      clear hv h3
      go_enter Tryd.func23, Tryd.ntmps23
      go_wp2
      all_goals (go_ret2; exact ⟨ret_dig (HE.out.trans (by first | rfl | (congr 1; omega))), rfl⟩)
  · have HE := Lib.hid (dig_no (c := c) (b := b) (.inr (.inr (.inl (by omega)))))
    clear hv
    go_enter Tryd.func23, Tryd.ntmps23
    go_wp2
    all_goals (go_ret2; exact ⟨ret_dig HE.out, rfl⟩)
  · by_cases h3 : b ≤ c - 55
    · have HE := Lib.hid (dig_no (c := c) (b := b) (.inr (.inr (.inr (by omega)))))
      clear hv
      go_enter Tryd.func23, Tryd.ntmps23
      go_wp2
      all_goals (go_ret2; exact ⟨ret_dig HE.out, rfl⟩)
    · have HE := Lib.hid (dig_yes (b := b) hv (by omega))
      have h4 : c - 55 < b := by omega
      clear hv h3
      go_enter Tryd.func23, Tryd.ntmps23
      go_wp2
      all_goals (go_ret2; exact ⟨ret_dig (HE.out.trans (by first | rfl | (congr 1; omega))), rfl⟩)
  · have HE := Lib.hid (dig_no (c := c) (b := b) (.inr (.inr (.inl (by omega)))))
    clear hv
    go_enter Tryd.func23, Tryd.ntmps23
    go_wp2
    all_goals (go_ret2; exact ⟨ret_dig HE.out, rfl⟩)
  · by_cases h3 : b ≤ c - 87
    · have HE := Lib.hid (dig_no (c := c) (b := b) (.inr (.inr (.inr (by omega)))))
      clear hv
      go_enter Tryd.func23, Tryd.ntmps23
      go_wp2
      all_goals (go_ret2; exact ⟨ret_dig HE.out, rfl⟩)
    · have HE := Lib.hid (dig_yes (b := b) hv (by omega))
      have h4 : c - 87 < b := by omega
      clear hv h3
      go_enter Tryd.func23, Tryd.ntmps23
      go_wp2
      all_goals (go_ret2; exact ⟨ret_dig (HE.out.trans (by first | rfl | (congr 1; omega))), rfl⟩)
  · have HE := Lib.hid (dig_no (c := c) (b := b) (.inr (.inr (.inl (by omega)))))
    clear hv
    go_enter Tryd.func23, Tryd.ntmps23
    go_wp2
    all_goals (go_ret2; exact ⟨ret_dig HE.out, rfl⟩)
end Go.Proofs.YtdhibbphjnoikaaDoor
