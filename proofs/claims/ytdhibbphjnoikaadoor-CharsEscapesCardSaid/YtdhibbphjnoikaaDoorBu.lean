/-
  The walks of Escape, both.
-/
import Derived.Test.YtdhibbphjnoikaaDoorBt
import Derived.Outline
namespace Go.Proofs.YtdhibbphjnoikaaDoor
open Go.RowKit
/-- how a character is written -/
def esc (c : Int) : ByteArray × Bool :=
  if chr c = false then (⟨#[]⟩, false)
  else if 7 ≤ c ∧ c ≤ 13 then (⟨#[92, ([97, 98, 116, 110, 118, 102, 114] : List UInt8).getD (c - 7).toNat 0]⟩, true)
  else if c = 39 ∨ c = 92 then (⟨#[92, c.toNat.toUInt8]⟩, true)
  else if 32 ≤ c ∧ c ≤ 126 then (⟨#[c.toNat.toUInt8]⟩, true)
  else (⟨#[92, 120]⟩ ++ hexS c ++ ⟨#[92]⟩, true)
theorem ret_esc {a : ByteArray} {b : Bool} {x : ByteArray × Bool} (h : x = (a, b)) : Ending.returned (.tuple #[.string a, .bool b]) = .returned (.tuple #[.string x.1, .bool x.2]) := by rw [h]
theorem hexS_len (u : Int) : (hexS u).size ≤ 2 := by
  unfold hexS
  split
  · exact (show 1 ≤ 2 by decide)
  · exact (show 2 ≤ 2 by decide)
theorem conv_cells (w : World) (cs : Array Value) (t : TypeId) (n : Nat) (bs : List UInt8) (hn : n = bs.length) (h : ∀ j (hj : j < bs.length), cs[j]? = some (.int .u8 bs[j].toNat)) :
    (convert 51 9 (.slice (some ⟨w.heap.size, 0, none⟩) n n)).run Tryd.prog (w.alloc (.cells cs t)) = .ok (.string ⟨bs.toArray⟩) (w.alloc (.cells cs t)) := by
  have := run_convert_bytes_back (P := Tryd.prog) (w.alloc (.cells cs t)) 51 9 5 ⟨w.heap.size, 0, none⟩ n bs Tryd.underlying51 Tryd.underlying5 Tryd.underlying9 (fun j hj => by
    have h2 := h j hj
    rw [add_plain]
    simp [h2])
  subst hn
  exact this
theorem byte_of {c : Int} (h0 : 0 ≤ c) (h1 : c ≤ 255) : ((c.toNat.toUInt8).toNat : Int) = c := by
  rw [show c.toNat.toUInt8.toNat = c.toNat % 256 from rfl, Nat.mod_eq_of_lt (by omega)]; omega
theorem conv_one (w : World) (c : Int) (t : TypeId) (h0 : 0 ≤ c) (h1 : c ≤ 255) :
    (convert 51 9 (.slice (some ⟨w.heap.size, 0, none⟩) 1 1)).run Tryd.prog (w.alloc (.cells #[.int .u8 c] t)) = .ok (.string ⟨#[c.toNat.toUInt8]⟩) (w.alloc (.cells #[.int .u8 c] t)) :=
  conv_cells w _ t 1 [c.toNat.toUInt8] rfl fun j hj => by
    obtain rfl : j = 0 := by simpa using hj
    simp only [List.getElem_cons_zero, byte_of h0 h1]; rfl
theorem esc_one {c : Int} (h0 : chr c = true) (h1 : ¬ (7 ≤ c ∧ c ≤ 13)) (h2 : ¬ (c = 39 ∨ c = 92)) (h3 : 32 ≤ c ∧ c ≤ 126) : esc c = (⟨#[c.toNat.toUInt8]⟩, true) := by
  unfold esc; rw [if_neg (by rw [h0]; decide), if_neg h1, if_neg h2, if_pos h3]
theorem esc_hex {c : Int} (h0 : chr c = true) (h1 : ¬ (7 ≤ c ∧ c ≤ 13)) (h2 : ¬ (c = 39 ∨ c = 92)) (h3 : ¬ (32 ≤ c ∧ c ≤ 126)) : esc c = (⟨#[92, 120]⟩ ++ hexS c ++ ⟨#[92]⟩, true) := by
  unfold esc; rw [if_neg (by rw [h0]; decide), if_neg h1, if_neg h2, if_neg h3]
set_option maxHeartbeats 2000000 in
theorem escape_any (c : Int) (w : World) (h : dbAt w) : Calls Tryd.prog 21 #[.int .i64 c] w fun e w' => e = .returned (.tuple #[.string (esc c).1, .bool (esc c).2]) ∧ Below w.heap.size w w' := by
  have HD := Lib.hid h
  clear h
  cases hc : chr c
  · have HE := Lib.hid (show esc c = (⟨#[]⟩, false) from if_pos hc)
    go_enter Tryd.func21, Tryd.ntmps21
    go_wp2_with fail
    refine (is_any _ _).mono ?_
    rintro e w1 ⟨rfl, rfl⟩
    rw [hc]
    go_wp2_with fail
    go_ret2
    exact ⟨ret_esc HE.out, Below.refl _ _⟩
  have HC := Lib.hid hc
  obtain ⟨c0, c1⟩ := chr_iff.1 hc
  clear hc
  by_cases h7 : 7 ≤ c ∧ c ≤ 13
  · have hx : c = 7 ∨ c = 8 ∨ c = 9 ∨ c = 10 ∨ c = 11 ∨ c = 12 ∨ c = 13 := by omega
    rcases hx with rfl | rfl | rfl | rfl | rfl | rfl | rfl
    all_goals
      go_enter Tryd.func21, Tryd.ntmps21
      go_wp2_with fail
      refine (is_any _ _).mono ?_
      rintro e w1 ⟨rfl, rfl⟩
      rw [HC.out]
      go_wp2_with fail
      go_ret2
      exact ⟨rfl, Below.refl _ _⟩
  by_cases hq : c = 39 ∨ c = 92
  · rcases hq with rfl | rfl
    all_goals
      go_enter Tryd.func21, Tryd.ntmps21
      go_wp2_with fail
      refine (is_any _ _).mono ?_
      rintro e w1 ⟨rfl, rfl⟩
      rw [HC.out]
      go_wp2_with fail
      rw [conv_one _ _ _ (by decide) (by decide)]
      go_wp2_with fail
      go_ret2
      exact ⟨rfl, bAlloc _ _⟩
  have q1 : (c == 39) = false := by simp; omega
  have q2 : (c == 92) = false := by simp; omega
  by_cases h3 : 32 ≤ c ∧ c ≤ 126
  · have HE := Lib.hid (esc_one HC.out h7 hq h3)
    have t1 : decide (7 ≤ c) = true := by simp; omega
    have t2 : decide (c ≤ 13) = false := by simp; omega
    have t3 : decide (32 ≤ c) = true := by simp; omega
    have t4 : decide (c ≤ 126) = true := by simp; omega
    clear hq h7
    go_enter Tryd.func21, Tryd.ntmps21
    go_wp2_with fail
    refine (is_any _ _).mono ?_
    rintro e w1 ⟨rfl, rfl⟩
    rw [HC.out]
    go_wp2_with fail
    rw [conv_one _ c _ c0 c1]
    go_wp2_with fail
    go_ret2
    exact ⟨ret_esc HE.out, bAlloc _ _⟩
  · have HE := Lib.hid (esc_hex HC.out h7 hq h3)
    have hx : (c ≤ 6) ∨ (14 ≤ c ∧ c ≤ 31) ∨ 127 ≤ c := by omega
    clear hq h7 h3
    rcases hx with hx | ⟨hx, hy⟩ | hx
    · have t1 : decide (7 ≤ c) = false := by simp; omega
      have t3 : decide (32 ≤ c) = false := by simp; omega
      go_enter Tryd.func21, Tryd.ntmps21
      go_wp2_with fail
      refine (is_any _ _).mono ?_
      rintro e w1 ⟨rfl, rfl⟩
      rw [HC.out]
      go_wp2_with fail
      refine (fmt_any c _ HD.out c0 (by omega)).mono ?_
      rintro e w2 ⟨rfl, HB⟩
      have hsz := hexS_len c
      generalize hexS c = z at *
      replace HB := Lib.hid HB
      go_wp2_with fail
      go_ret2
      exact ⟨ret_esc HE.out, HB.out⟩
    · have t1 : decide (7 ≤ c) = true := by simp; omega
      have t2 : decide (c ≤ 13) = false := by simp; omega
      have t3 : decide (32 ≤ c) = false := by simp; omega
      go_enter Tryd.func21, Tryd.ntmps21
      go_wp2_with fail
      refine (is_any _ _).mono ?_
      rintro e w1 ⟨rfl, rfl⟩
      rw [HC.out]
      go_wp2_with fail
      refine (fmt_any c _ HD.out c0 (by omega)).mono ?_
      rintro e w2 ⟨rfl, HB⟩
      have hsz := hexS_len c
      generalize hexS c = z at *
      replace HB := Lib.hid HB
      go_wp2_with fail
      go_ret2
      exact ⟨ret_esc HE.out, HB.out⟩
    · have t1 : decide (7 ≤ c) = true := by simp; omega
      have t2 : decide (c ≤ 13) = false := by simp; omega
      have t3 : decide (32 ≤ c) = true := by simp; omega
      have t4 : decide (c ≤ 126) = false := by simp; omega
      go_enter Tryd.func21, Tryd.ntmps21
      go_wp2_with fail
      refine (is_any _ _).mono ?_
      rintro e w1 ⟨rfl, rfl⟩
      rw [HC.out]
      go_wp2_with fail
      refine (fmt_any c _ HD.out c0 (by omega)).mono ?_
      rintro e w2 ⟨rfl, HB⟩
      have hsz := hexS_len c
      generalize hexS c = z at *
      replace HB := Lib.hid HB
      go_wp2_with fail
      go_ret2
      exact ⟨ret_esc HE.out, HB.out⟩
end Go.Proofs.YtdhibbphjnoikaaDoor
