/-
  Plain law: the number that digits denote.
-/
import Derived.Test.YtcnbaioecoaopaaDoorAo
namespace Go.Proofs.YtcnbaioecoaopaaDoor
open Go.RowKit
def dv (c : UInt8) : Int := dgt 36 (c.toNat : Int)
theorem dgt_bd (c : Int) : 0 ≤ dgt 36 c ∧ dgt 36 c ≤ 36 := by
  unfold dgt; split
  · omega
  · split
    · omega
    · split <;> omega
theorem dgt_lt {c b : Int} (hb : b ≤ 36) : dgt 99 c < b ↔ dgt 36 c < b := by
  unfold dgt; split
  · omega
  · split
    · omega
    · split <;> omega
theorem dgt_same {c b : Int} (hb : b ≤ 36) (h : dgt 36 c < b) : dgt 99 c = dgt 36 c := by
  unfold dgt at *; split
  · rfl
  · rename_i h1
    rw [if_neg h1] at h
    split
    · rfl
    · rename_i h2
      rw [if_neg h2] at h
      split
      · rfl
      · rename_i h3
        rw [if_neg h3] at h
        omega
def vals (b : Int) (l : List UInt8) : Int := l.foldl (fun v c => v * b + dv c) 0
theorem vals_snoc (b : Int) (l : List UInt8) (c : UInt8) : vals b (l ++ [c]) = vals b l * b + dv c := by
  simp [vals]
theorem vals_next {b : Int} {l : List UInt8} {k : Nat} (h : k < l.length) : vals b (l.take (k + 1)) = vals b (l.take k) * b + dv l[k] := by
  rw [List.take_succ_eq_append_getElem h, vals_snoc]
theorem vals_mono1 {b : Int} (hb : 1 ≤ b) {l : List UInt8} {k : Nat} (h : k < l.length) (h0 : 0 ≤ vals b (l.take k)) : vals b (l.take k) ≤ vals b (l.take (k + 1)) := by
  rw [vals_next h]
  have h1 : vals b (l.take k) * 1 ≤ vals b (l.take k) * b := Int.mul_le_mul_of_nonneg_left hb h0
  have h2 := (dgt_bd (l[k].toNat : Int)).1
  unfold dv
  omega
theorem vals_nonneg {b : Int} (hb : 1 ≤ b) {l : List UInt8} : ∀ (k : Nat), k ≤ l.length → 0 ≤ vals b (l.take k)
  | 0, _ => by simp [vals]
  | k + 1, h => by
    have h0 := vals_nonneg hb (l := l) k (by omega)
    have := vals_mono1 hb (l := l) (k := k) (by omega) h0
    omega
theorem vals_le {b : Int} (hb : 1 ≤ b) {l : List UInt8} {k : Nat} : ∀ (j : Nat), k ≤ j → j ≤ l.length → vals b (l.take k) ≤ vals b (l.take j)
  | 0, h, _ => by
    obtain rfl : k = 0 := by omega
    exact Int.le_refl _
  | j + 1, h, hj => by
    by_cases e : k = j + 1
    · rw [e]; exact Int.le_refl _
    · have h1 := vals_le hb (l := l) (k := k) j (by omega) (by omega)
      have h2 := vals_mono1 hb (l := l) (k := j) (by omega) (vals_nonneg hb j (by omega))
      omega
theorem vals_all {b : Int} (hb : 1 ≤ b) {l : List UInt8} {k : Nat} (hk : k ≤ l.length) : vals b (l.take k) ≤ vals b l := by
  have := vals_le hb (l := l) (k := k) l.length hk (Nat.le_refl _)
  rwa [List.take_length] at this
/-- the program's test for one digit more -/
theorem test_over {V b d : Int} (hb : 2 ≤ b) (hd : 0 ≤ d) (hd2 : d ≤ 36) : -V < (-9223372036854775808 + d).tdiv b ↔ 9223372036854775808 < V * b + d := by
  have e : (-9223372036854775808 + d).tdiv b = -((9223372036854775808 - d) / b) := by
    rw [show -9223372036854775808 + d = -(9223372036854775808 - d) by omega, Int.neg_tdiv, Int.tdiv_eq_ediv_of_nonneg (by omega)]
  rw [e]
  have h := Int.ediv_lt_iff_lt_mul (a := 9223372036854775808 - d) (b := V) (c := b) (by omega)
  omega
def isNeg (s : ByteArray) : Bool := s.data.toList.head? == some 45
def digs (s : ByteArray) : List UInt8 := if isNeg s then s.data.toList.drop 1 else s.data.toList
/-- the integer that a string denotes in a base -/
def prs (s : ByteArray) (b : Int) : Int × Int :=
  if b < 2 ∨ 36 < b then (0, 1) else if digs s = [] then (0, 3) else if (digs s).all (fun c => decide (dv c < b)) then ovf (if isNeg s then -(vals b (digs s)) else vals b (digs s)) else (0, 3)
theorem prs_base {s : ByteArray} {b : Int} (h : b < 2 ∨ 36 < b) : prs s b = (0, 1) := if_pos h
theorem prs_none {s : ByteArray} {b : Int} (h : ¬ (b < 2 ∨ 36 < b)) (h2 : digs s = []) : prs s b = (0, 3) := by
  unfold prs; rw [if_neg h, if_pos h2]
theorem prs_bad {s : ByteArray} {b : Int} (h : ¬ (b < 2 ∨ 36 < b)) {k : Nat} (hk : k < (digs s).length) (hd : ¬ dv (digs s)[k] < b) : prs s b = (0, 3) := by
  unfold prs
  rw [if_neg h]
  split
  · rfl
  · rw [if_neg]
    rw [List.all_eq_true]
    intro ha
    exact hd (by simpa using ha _ (List.getElem_mem hk))
theorem prs_ok {s : ByteArray} {b : Int} (h : ¬ (b < 2 ∨ 36 < b)) (h2 : digs s ≠ []) (hd : ∀ k (hk : k < (digs s).length), dv (digs s)[k] < b) :
    prs s b = ovf (if isNeg s then -(vals b (digs s)) else vals b (digs s)) := by
  unfold prs
  rw [if_neg h, if_neg h2, if_pos]
  rw [List.all_eq_true]
  intro c hc
  obtain ⟨k, hk, rfl⟩ := List.mem_iff_getElem.1 hc
  simpa using hd k hk
theorem prs_over {s : ByteArray} {b : Int} (h : ¬ (b < 2 ∨ 36 < b)) (h2 : digs s ≠ []) (hd : ∀ k (hk : k < (digs s).length), dv (digs s)[k] < b) {k : Nat} (hk : k ≤ (digs s).length)
    (ho : 9223372036854775808 < vals b ((digs s).take k)) : prs s b = (0, 10) := by
  rw [prs_ok h h2 hd]
  have := vals_all (b := b) (by omega) hk
  split
  · exact ovf_out (by unfold inR; omega)
  · exact ovf_out (by unfold inR; omega)
theorem prs_neg {s : ByteArray} {b : Int} (h : ¬ (b < 2 ∨ 36 < b)) (h2 : digs s ≠ []) (hd : ∀ k (hk : k < (digs s).length), dv (digs s)[k] < b) (hn : isNeg s = true)
    (ho : vals b (digs s) ≤ 9223372036854775808) : prs s b = (-(vals b (digs s)), 0) := by
  have := vals_nonneg (b := b) (l := digs s) (by omega) _ (Nat.le_refl _)
  rw [List.take_length] at this
  rw [prs_ok h h2 hd, if_pos hn, ovf_in (by unfold inR; omega)]
theorem prs_pos {s : ByteArray} {b : Int} (h : ¬ (b < 2 ∨ 36 < b)) (h2 : digs s ≠ []) (hd : ∀ k (hk : k < (digs s).length), dv (digs s)[k] < b) (hn : isNeg s = false)
    (ho : vals b (digs s) ≤ 9223372036854775807) : prs s b = (vals b (digs s), 0) := by
  have := vals_nonneg (b := b) (l := digs s) (by omega) _ (Nat.le_refl _)
  rw [List.take_length] at this
  rw [prs_ok h h2 hd, hn, if_neg (by decide), ovf_in (by unfold inR; omega)]
theorem prs_least {s : ByteArray} {b : Int} (h : ¬ (b < 2 ∨ 36 < b)) (h2 : digs s ≠ []) (hd : ∀ k (hk : k < (digs s).length), dv (digs s)[k] < b) (hn : isNeg s = false)
    (ho : 9223372036854775807 < vals b (digs s)) : prs s b = (0, 10) := by
  rw [prs_ok h h2 hd, hn, if_neg (by decide), ovf_out (by unfold inR; omega)]
end Go.Proofs.YtcnbaioecoaopaaDoor
