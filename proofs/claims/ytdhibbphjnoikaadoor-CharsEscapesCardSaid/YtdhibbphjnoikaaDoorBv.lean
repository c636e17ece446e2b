/-
  The walk of the reference's Escape.
-/
import Derived.Test.YtdhibbphjnoikaaDoorBu
import Derived.Outline
namespace Go.Proofs.YtdhibbphjnoikaaDoor
open Go.RowKit
theorem hex_lo {c : Int} (h0 : 0 ≤ c) (h1 : c < 16) : (⟨#[92, 120]⟩ : ByteArray) ++ hexS c ++ ⟨#[92]⟩ = ⟨#[92, 120]⟩ ++ (⟨#[48, 49, 50, 51, 52, 53, 54, 55, 56, 57, 97, 98, 99, 100, 101, 102]⟩ : ByteArray).extract (c % 16).toNat (c % 16 + 1).toNat ++ ⟨#[92]⟩ := by
  have h : ∀ n : Fin 16, (⟨#[92, 120]⟩ : ByteArray) ++ hexS n.val ++ ⟨#[92]⟩ = ⟨#[92, 120]⟩ ++ (⟨#[48, 49, 50, 51, 52, 53, 54, 55, 56, 57, 97, 98, 99, 100, 101, 102]⟩ : ByteArray).extract ((n.val : Int) % 16).toNat ((n.val : Int) % 16 + 1).toNat ++ ⟨#[92]⟩ := by decide +kernel
  have := h ⟨c.toNat, by omega⟩
  simpa only [Int.toNat_of_nonneg h0] using this
theorem hex_hi {c : Int} (h0 : 16 ≤ c) (h1 : c ≤ 255) : (⟨#[92, 120]⟩ : ByteArray) ++ hexS c ++ ⟨#[92]⟩ = ⟨#[92, 120]⟩ ++ (⟨#[48, 49, 50, 51, 52, 53, 54, 55, 56, 57, 97, 98, 99, 100, 101, 102]⟩ : ByteArray).extract (c / 16).toNat (c / 16 + 1).toNat ++ (⟨#[48, 49, 50, 51, 52, 53, 54, 55, 56, 57, 97, 98, 99, 100, 101, 102]⟩ : ByteArray).extract (c % 16).toNat (c % 16 + 1).toNat ++ ⟨#[92]⟩ := by
  have h : ∀ n : Fin 256, 16 ≤ n.val → (⟨#[92, 120]⟩ : ByteArray) ++ hexS n.val ++ ⟨#[92]⟩ = ⟨#[92, 120]⟩ ++ (⟨#[48, 49, 50, 51, 52, 53, 54, 55, 56, 57, 97, 98, 99, 100, 101, 102]⟩ : ByteArray).extract ((n.val : Int) / 16).toNat ((n.val : Int) / 16 + 1).toNat ++ (⟨#[48, 49, 50, 51, 52, 53, 54, 55, 56, 57, 97, 98, 99, 100, 101, 102]⟩ : ByteArray).extract ((n.val : Int) % 16).toNat ((n.val : Int) % 16 + 1).toNat ++ ⟨#[92]⟩ := by decide +kernel
  have := h ⟨c.toNat, by omega⟩ (by simp only; omega)
  simpa only [Int.toNat_of_nonneg (show 0 ≤ c by omega)] using this
set_option maxHeartbeats 2000000 in
theorem rescape_any (c : Int) (w : World) : Calls Tryd.prog 24 #[.int .i64 c] w fun e w' => e = .returned (.tuple #[.string (esc c).1, .bool (esc c).2]) ∧ Below w.heap.size w w' := by
  cases hc : chr c
  · have HE := Lib.hid (show esc c = (⟨#[]⟩, false) from if_pos hc)
    go_enter Tryd.func24, Tryd.ntmps24
    go_wp2_with fail
    refine (ris_any _ _).mono ?_
    rintro e w1 ⟨rfl, rfl⟩
    rw [hc]
    go_wp2_with fail
    go_ret2
    exact ⟨ret_esc HE.out, Below.refl _ _⟩
  have HC := Lib.hid hc
  obtain ⟨c0, c1⟩ := chr_iff.1 hc
  clear hc
  by_cases h7 : 7 ≤ c ∧ c ≤ 13
  · have hx : c = 7 ∨ c = 8 ∨ c = 9 ∨ c = 10 ∨ c = 11 ∨ c = 12 ∨ c = 13 := by omega
    rcases hx with rfl | rfl | rfl | rfl | rfl | rfl | rfl
    all_goals
      go_enter Tryd.func24, Tryd.ntmps24
      go_wp2_with fail
      refine (ris_any _ _).mono ?_
      rintro e w1 ⟨rfl, rfl⟩
      rw [HC.out]
      go_wp2_with fail
      go_ret2
      exact ⟨rfl, Below.refl _ _⟩
  by_cases hq : c = 39 ∨ c = 92
  · rcases hq with rfl | rfl
    · go_enter Tryd.func24, Tryd.ntmps24
      go_wp2_with fail
      refine (ris_any _ _).mono ?_
      rintro e w1 ⟨rfl, rfl⟩
      rw [HC.out]
      go_wp2_with fail
      rw [conv_cells w _ _ 2 [92, 39] rfl (fun j hj => by have h2 : j = 0 ∨ j = 1 := by (have : j < 2 := hj; omega)
                                                          rcases h2 with rfl | rfl <;> rfl)]
      go_wp2_with fail
      go_ret2
      exact ⟨rfl, bAlloc _ _⟩
    · go_enter Tryd.func24, Tryd.ntmps24
      go_wp2_with fail
      refine (ris_any _ _).mono ?_
      rintro e w1 ⟨rfl, rfl⟩
      rw [HC.out]
      go_wp2_with fail
      rw [conv_cells w _ _ 2 [92, 92] rfl (fun j hj => by have h2 : j = 0 ∨ j = 1 := by (have : j < 2 := hj; omega)
                                                          rcases h2 with rfl | rfl <;> rfl)]
      go_wp2_with fail
      go_ret2
      exact ⟨rfl, bAlloc _ _⟩
  have q1 : (c == 39) = false := by simp; omega
  have q2 : (c == 92) = false := by simp; omega
  by_cases h3 : 32 ≤ c ∧ c ≤ 126
  · have HE := Lib.hid (esc_one HC.out h7 hq h3)
    have t1 : decide (7 ≤ c) = true := by simp; omega
    have t2 : decide (c ≤ 13) = false := by simp; omega
    have t3 : decide (32 ≤ c) = true := by simp; omega
    have t4 : decide (c ≤ 126) = true := by simp; omega
    clear hq h7
    go_enter Tryd.func24, Tryd.ntmps24
    go_wp2_with fail
    refine (ris_any _ _).mono ?_
    rintro e w1 ⟨rfl, rfl⟩
    rw [HC.out]
    go_wp2_with fail
    rw [conv_one _ c _ c0 c1]
    go_wp2_with fail
    go_ret2
    exact ⟨ret_esc HE.out, bAlloc _ _⟩
  have HE := Lib.hid (esc_hex HC.out h7 hq h3)
  have hx : (c ≤ 6) ∨ (14 ≤ c ∧ c ≤ 15) ∨ (16 ≤ c ∧ c ≤ 31) ∨ 127 ≤ c := by omega
  clear hq h7 h3
  rcases hx with hx | ⟨hx, hy⟩ | ⟨hx, hy⟩ | hx
  · have t1 : decide (7 ≤ c) = false := by simp; omega
    have t3 : decide (32 ≤ c) = false := by simp; omega
    have t5 : decide (16 ≤ c) = false := by simp; omega
    go_enter Tryd.func24, Tryd.ntmps24
    go_wp2_with fail
    refine (ris_any _ _).mono ?_
    rintro e w1 ⟨rfl, rfl⟩
    rw [HC.out]
    go_wp2_with fail
    go_ret2
    exact ⟨ret_esc (HE.out.trans (Prod.ext (hex_lo c0 (by omega)) rfl)), Below.refl _ _⟩
  · have t1 : decide (7 ≤ c) = true := by simp; omega
    have t2 : decide (c ≤ 13) = false := by simp; omega
    have t3 : decide (32 ≤ c) = false := by simp; omega
    have t5 : decide (16 ≤ c) = false := by simp; omega
    go_enter Tryd.func24, Tryd.ntmps24
    go_wp2_with fail
    refine (ris_any _ _).mono ?_
    rintro e w1 ⟨rfl, rfl⟩
    rw [HC.out]
    go_wp2_with fail
    go_ret2
    exact ⟨ret_esc (HE.out.trans (Prod.ext (hex_lo c0 (by omega)) rfl)), Below.refl _ _⟩
  · have t1 : decide (7 ≤ c) = true := by simp; omega
    have t2 : decide (c ≤ 13) = false := by simp; omega
    have t3 : decide (32 ≤ c) = false := by simp; omega
    have t5 : decide (16 ≤ c) = true := by simp; omega
    go_enter Tryd.func24, Tryd.ntmps24
    go_wp2_with fail
    refine (ris_any _ _).mono ?_
    rintro e w1 ⟨rfl, rfl⟩
    rw [HC.out]
    go_wp2_with fail
    go_ret2
    exact ⟨ret_esc (HE.out.trans (Prod.ext (hex_hi (by omega) c1) rfl)), Below.refl _ _⟩
  · have t1 : decide (7 ≤ c) = true := by simp; omega
    have t2 : decide (c ≤ 13) = false := by simp; omega
    have t3 : decide (32 ≤ c) = true := by simp; omega
    have t4 : decide (c ≤ 126) = false := by simp; omega
    have t5 : decide (16 ≤ c) = true := by simp; omega
    go_enter Tryd.func24, Tryd.ntmps24
    go_wp2_with fail
    refine (ris_any _ _).mono ?_
    rintro e w1 ⟨rfl, rfl⟩
    rw [HC.out]
    go_wp2_with fail
    go_ret2
    exact ⟨ret_esc (HE.out.trans (Prod.ext (hex_hi (by omega) c1) rfl)), Below.refl _ _⟩
end Go.Proofs.YtdhibbphjnoikaaDoor
