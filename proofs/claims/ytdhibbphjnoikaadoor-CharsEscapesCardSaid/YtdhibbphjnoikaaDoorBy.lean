/-
  Plain laws of the escaped text: it can be read back; it is printable.
-/
import Derived.Test.YtdhibbphjnoikaaDoorBv
namespace Go.Proofs.YtdhibbphjnoikaaDoor
open Go.RowKit
/-- byte i of a text, as an integer -/
def bt (s : ByteArray) (i : Nat) : Int := ((s.data.toList.getD i 0).toNat : Int)
theorem bt_at (s : ByteArray) (i : Nat) (h : i < s.size) : bt s i = ((s[i].toNat : Nat) : Int) := by
  have hl : i < s.data.toList.length := by rw [size_len]; exact h
  unfold bt
  rw [List.getD_eq_getElem?_getD, List.getElem?_eq_getElem hl, Option.getD_some, byte_at s i hl h]
/-- what the text says -/
def unesc (s : ByteArray) : Int :=
  if s.size = 1 then bt s 0 else if s.size = 2 then (unE (bt s 1)).1 else if s.size = 4 then (digS (bt s 2) 16).1 else 16 * (digS (bt s 2) 16).1 + (digS (bt s 3) 16).1
/-- the ways of an escaped text -/
def wayE (c : Int) (s : ByteArray) : Bool :=
  (s.size == 1 && bt s 0 == c) ||
  (s.size == 2 && bt s 0 == 92 && unE (bt s 1) == (c, true)) ||
  (s.size == 4 && bt s 0 == 92 && bt s 1 == 120 && digS (bt s 2) 16 == (c, true) && decide (c ≤ 15) && bt s 3 == 92) ||
  (s.size == 5 && bt s 0 == 92 && bt s 1 == 120 && (digS (bt s 2) 16).2 && (digS (bt s 3) 16).2 && 16 * (digS (bt s 2) 16).1 + (digS (bt s 3) 16).1 == c && decide (0 ≤ (digS (bt s 2) 16).1) && decide ((digS (bt s 2) 16).1 ≤ 15) && bt s 4 == 92)
def prnt (s : ByteArray) : Bool := s.data.toList.all fun b => decide (32 ≤ b.toNat) && decide (b.toNat ≤ 126)
theorem esc_all {c : Int} (hc : chr c = true) : (esc c).2 = true ∧ unesc (esc c).1 = c ∧ wayE c (esc c).1 = true ∧ prnt (esc c).1 = true := by
  obtain ⟨h0, h1⟩ := chr_iff.1 hc
  have h : ∀ n : Fin 256, (esc n.val).2 = true ∧ unesc (esc n.val).1 = n.val ∧ wayE n.val (esc n.val).1 = true ∧ prnt (esc n.val).1 = true := by decide +kernel
  have := h ⟨c.toNat, by omega⟩
  simpa only [Int.toNat_of_nonneg h0] using this
theorem esc_out {c : Int} (hc : chr c = false) : esc c = (⟨#[]⟩, false) := if_pos hc
theorem esc_inj {c d : Int} (hc : chr c = true) (hd : chr d = true) : (esc c).1 = (esc d).1 ↔ c = d :=
  ⟨fun h => by rw [← (esc_all hc).2.1, ← (esc_all hd).2.1, h], fun h => by rw [h]⟩
theorem prnt_at {s : ByteArray} (h : prnt s = true) (i : Nat) (hi : i < s.size) : 32 ≤ s[i].toNat ∧ s[i].toNat ≤ 126 := by
  have hl : i < s.data.toList.length := by rw [size_len]; exact hi
  unfold prnt at h
  rw [List.all_eq_true] at h
  have := h _ (List.getElem_mem hl)
  rw [byte_at s i hl hi] at this
  simpa using this
end Go.Proofs.YtdhibbphjnoikaaDoor
